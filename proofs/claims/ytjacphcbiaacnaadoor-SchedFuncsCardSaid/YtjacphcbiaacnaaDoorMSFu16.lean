import Derived.Deep.DeepCutAuto
import Derived.Test.YtjacphcbiaacnaaDoorMSFu15
section
set_option linter.unusedVariables false
set_option linter.unusedSimpArgs false
set_option linter.unusedSectionVars false
namespace Go.Proofs.YtjacphcbiaacnaaDoor
open Go.RowKit Go.Proofs.YtjacphcbiaacnaaDoorW.PrintWords Go.Proofs.YtjacphcbiaacnaaDoorW.PrintMore Go.Proofs.YtjacphcbiaacnaaDoorW.PrintLast Go.Proofs.YtjacphcbiaacnaaDoor.PDigraphTells Mem Sc RowI
abbrev szB (b : S31) : Prop := b.f0.length * 8 ≤ 140737488355328 ∧ b.f1.length * 80 ≤ 140737488355328 ∧ (∀ i ∈ b.f1, i.f3.length * 8 ≤ 140737488355328) ∧ b.f2.f1.length * 8 ≤ 140737488355328 ∧ b.f2.f2.length * 8 ≤ 140737488355328 ∧ b.f2.f3.length * 32 ≤ 140737488355328 ∧ ∀ e ∈ b.f2.f3, e.f1.length * 8 ≤ 140737488355328
abbrev szF (x : S55) : Prop := x.f1.length * 8 ≤ 140737488355328 ∧ x.f3.length * 8 ≤ 140737488355328 ∧ x.f6.length * 136 ≤ 140737488355328 ∧ ∀ b ∈ x.f6, szB b
structure OU (w : World) (x : S55) (b1 b2 : Nat) (AP : Option Addr) (cP : Nat) (AR : Option Addr) (cR : Nat) (vB : Value) (ok : Nat → Prop) (wi : World) : Prop where
 b : Below w.heap.size w wi
 box : wi.heap[b1]? = some (.cells #[.string x.f0, .slice AP x.f1.length cP, .int .i64 x.f2, .slice AR x.f3.length cR, .int .i64 x.f4, .int .i64 x.f5, vB] 55 (0, 0))
 res : ∃ cs, wi.heap[b2]? = some (.cells cs 55 (0, 0)) ∧ cs.size = 7
 hP : x.f1.length ≤ cP
 P : Kd.F (Kd.int .i64) wi ok AP x.f1.length x.f1
 hR : x.f3.length ≤ cR
 R : Kd.F (Kd.int .i64) wi ok AR x.f3.length x.f3
section
variable {w : World} {x : S55} {b1 b2 : Nat} {AP : Option Addr} {cP : Nat} {AR : Option Addr} {cR : Nat} {vB : Value} {ok ok' : Nat → Prop} {wi wj : World}
theorem OU.below (h : OU w x b1 b2 AP cP AR cR vB ok wi) (hb : Below wi.heap.size wi wj) : OU w x b1 b2 AP cP AR cR vB ok wj := by
 obtain ⟨cs, h1, h2⟩ := h.res
 exact ⟨h.b.trans (hb.mono h.b.size), (hb.block _ (blk_lt' h.box)).trans h.box, ⟨cs, (hb.block _ (blk_lt' h1)).trans h1, h2⟩, h.hP, Kd.F_below h.P hb, h.hR, Kd.F_below h.R hb⟩
theorem OU.mono (h : OU w x b1 b2 AP cP AR cR vB ok wi) (hk : ∀ k, ok k → ok' k) : OU w x b1 b2 AP cP AR cR vB ok' wi := ⟨h.b, h.box, h.res, h.hP, Kd.F_mono h.P hk, h.hR, Kd.F_mono h.R hk⟩
theorem OU.bound (h : OU w x b1 b2 AP cP AR cR vB ok wi) : OU w x b1 b2 AP cP AR cR vB (fun k => ok k ∧ k < wi.heap.size) wi := ⟨h.b, h.box, h.res, h.hP, Kd.F_bound h.P, h.hR, Kd.F_bound h.R⟩
theorem OU.far (h : OU w x b1 b2 AP cP AR cR vB ok wi) {p : Addr} (hp : w.heap.size ≤ p.block) (h1 : b1 ≠ p.block) (h2 : b2 ≠ p.block) (hk : ∀ k, ok k → k ≠ p.block) (u : Value) : OU w x b1 b2 AP cP AR cR vB ok (wi.setCell p u) := by
 obtain ⟨cs, h3, h4⟩ := h.res
 have hb : Below w.heap.size w (wi.setCell p u) := ((Kp.of_below h.b (fun k => w.heap.size ≤ k)).then_ ((Kp.refl (fun k => w.heap.size ≤ k) wi).setCell (.inl hp) u) (fun k hk => .inl hk)).belowB (fun k hk => hk) (Nat.le_refl _)
 exact ⟨hb, by rw [Below.heap_setCell wi p u b1 h1]; exact h.box, ⟨cs, by rw [Below.heap_setCell wi p u b2 h2]; exact h3, h4⟩, h.hP, Kd.F_far h.P hk u, h.hR, Kd.F_far h.R hk u⟩
end
theorem arr7 {cs : Array Value} (h : cs.size = 7) : ∃ y0 y1 y2 y3 y4 y5 y6, cs = #[y0, y1, y2, y3, y4, y5, y6] := by
 obtain ⟨l⟩ := cs
 match l, h with
 | [y0, y1, y2, y3, y4, y5, y6], _ => exact ⟨y0, y1, y2, y3, y4, y5, y6, rfl⟩
theorem box_two {w w2 : World} {cs ds : Array Value} {t : Nat} (h : (w.alloc (.cells cs t (0, 0))).alloc (.cells ds t (0, 0)) = w2) {b1 : Nat} (hb : w.heap.size = b1) : Below w.heap.size w w2 ∧ w2.heap[b1]? = some (.cells cs t (0, 0)) ∧ w2.heap[b1 + 1]? = some (.cells ds t (0, 0)) := by
 subst hb
 refine ⟨by rw [← h]; exact below_alloc (below_alloc (Below.refl _ w) _) _, ?_, ?_⟩
 ·rw [← h, Below.heap_alloc _ _ _ (by simp)]
  exact heap_alloc_new w _
 ·have := heap_alloc_new (w.alloc (.cells cs t (0, 0))) (.cells ds t (0, 0))
  rw [h, show (w.alloc (.cells cs t (0, 0))).heap.size = w.heap.size + 1 by simp] at this
  exact this
theorem B5z {w2 w5 : World} {b1 : Nat} {a0 a1 a2 a3 a4 a5 a6 : Value} {t : Nat} (hb : Below w2.heap.size w2 w5) (h : w2.heap[b1]? = some (.cells #[a0, a1, a2, a3, a4, a5, a6] t (0, 0))) : w5.cell? ⟨b1, 1, none⟩ = some a1 ∧ w5.cell? ⟨b1, 3, none⟩ = some a3 ∧ w5.cell? ⟨b1, 6, none⟩ = some a6 ∧ ∀ j, w5.frozen? ⟨b1, j, none⟩ = false := by
 have g := (hb.block _ (blk_lt' h)).trans h
 exact ⟨cell_at g rfl, cell_at g rfl, cell_at g rfl, fun j => free_at g j⟩
def UK (okp : Nat → Prop) (b1 k : Nat) : Prop := okp k ∨ b1 + 2 ≤ k
theorem UK.ne {okp : Nat → Prop} {b1 k : Nat} (hok : ∀ k, okp k → k < b1) (h : UK okp b1 k) : k ≠ b1 ∧ k ≠ b1 + 1 := by
 rcases h with h | h
 ·have := hok k h; omega
 ·omega
theorem ok_new {okp : Nat → Prop} {W : World} {b1 : Nat} (h : b1 + 1 < W.heap.size) {k : Nat} (hk : okp k ∨ W.heap.size ≤ k) : UK okp b1 k := hk.imp id (fun h => by omega)
theorem ou_start {okp : Nat → Prop} {w : World} {x : S55} {b1 : Nat} {w2 w4 w5 w6 : World} {a1 a3 a6 : Value} {A1 A2 A3 : Option Addr} {d1 d2 d3 : Nat} (hok : ∀ k, okp k → k < b1) (hb1 : w.heap.size = b1) (hB2 : Below w.heap.size w w2) (z1 : w2.heap[b1]? = some (.cells #[.string x.f0, a1, .int .i64 x.f2, a3, .int .i64 x.f4, .int .i64 x.f5, a6] 55 (0, 0))) (z2 : w2.heap[b1 + 1]? = some (.cells #[.string { data := #[] }, .slice none 0 0, .int .i64 0, .slice none 0 0, .int .i64 0, .int .i64 0, .slice none 0 0] 55 (0, 0)))
  (h24 : w2.heap.size ≤ w4.heap.size) (hB5 : Below w2.heap.size w2 w5) (l1 : x.f1.length ≤ d1) (F1 : Kd.F (Kd.int .i64) w5 (fun k => UK okp b1 k ∧ k < w4.heap.size) A1 x.f1.length x.f1) (l2 : x.f3.length ≤ d2) (F2 : Kd.F (Kd.int .i64) w5 (fun k => UK okp b1 k ∧ k < w4.heap.size) A2 x.f3.length x.f3)
  (N3 : Kd.N k31 31 w5 0 (fun k => UK okp b1 k) (.slice A3 x.f6.length d3) x.f6) (hfr : ∀ g, A3 = some ⟨g, 0, none⟩ → w4.heap.size ≤ g)
  (hw6 : ((w5.setCell ⟨b1, 1, none⟩ (.slice A1 x.f1.length d1)).setCell ⟨b1, 3, none⟩ (.slice A2 x.f3.length d2)).setCell ⟨b1, 6, none⟩ (.slice A3 x.f6.length d3) = w6) :
  OU w x b1 (b1 + 1) A1 d1 A2 d2 (.slice A3 x.f6.length d3) (fun k => UK okp b1 k ∧ some k ≠ (Value.slice A3 x.f6.length d3).ownBlock) w6 ∧ Kd.N k31 31 w6 0 (fun k => UK okp b1 k) (.slice A3 x.f6.length d3) x.f6 ∧ (∀ g, A3 = some ⟨g, 0, none⟩ → w.heap.size < g ∧ b1 + 1 < g) := by
 have hl2 := blk_lt' z2
 have g1 := (hB5.block _ (blk_lt' z1)).trans z1
 have g2 := (hB5.block _ (blk_lt' z2)).trans z2
 have hown : ∀ k, k < w4.heap.size → some k ≠ (Value.slice A3 x.f6.length d3).ownBlock := fun k hk e => by
  rcases A3 with _ | ⟨g, off, q⟩
  ·simp [Value.ownBlock] at e
  ·obtain ⟨g', hg'⟩ : ∃ g', (⟨g, off, q⟩ : Addr) = ⟨g', 0, none⟩ := by
    rcases Nat.eq_zero_or_pos x.f6.length with h0 | h0
    ·obtain ⟨_, rows, _, hR, _⟩ := N3
     exact Kd.R_head hR
    ·obtain ⟨g', c', e1, _⟩ := Kd.N_form N3 h0
     injection e1 with e1
     injection e1 with e1
     exact ⟨g', e1⟩
   rw [hg'] at e
   have h1 := hfr g' (by rw [hg'])
   have h2 : k = g' := by simpa [Value.ownBlock] using e
   omega
 have kp : Kp (fun k => k = b1) w5 w6 := by
  rw [← hw6]
  exact (((Kp.refl (fun k => k = b1) w5).setCell (p := ⟨b1, 1, none⟩) (.inl rfl) _).setCell (p := ⟨b1, 3, none⟩) (.inl rfl) _).setCell (p := ⟨b1, 6, none⟩) (.inl rfl) _
 have hm : ∀ k, k ≠ b1 → k < w5.heap.size → w6.heap[k]? = w5.heap[k]? := fun k hk hlt => kp.block hlt hk
 refine ⟨⟨?_, ?_, ⟨_, (hm _ (by omega) (blk_lt' g2)).trans g2, rfl⟩, l1, ?_, l2, ?_⟩, ?_, fun g hg => ?_⟩
 ·exact ((Kp.of_below (hB2.trans (hB5.mono hB2.size)) (fun k => w.heap.size ≤ k)).then_ kp (fun k hk => .inr (by omega))).belowB (fun k hk => hk) (Nat.le_refl _)
 ·rw [← hw6]
  exact set_at (set_at (set_at g1 _) _) _
 ·exact Kd.F_mono (Kd.F_step F1 (fun k hk hlt => hm k (hk.1.ne hok).1 hlt)) (fun k hk => ⟨hk.1, hown k hk.2⟩)
 ·exact Kd.F_mono (Kd.F_step F2 (fun k hk hlt => hm k (hk.1.ne hok).1 hlt)) (fun k hk => ⟨hk.1, hown k hk.2⟩)
 ·exact Kd.N_step N3 (fun k hk hlt => hm k (hk.ne hok).1 hlt)
 ·have := hfr g hg
  omega
theorem ok_new2 {okp : Nat → Prop} {wr W : World} {b1 g : Nat} (hb : b1 + 1 < wr.heap.size) (hg : g < wr.heap.size) (hW : wr.heap.size ≤ W.heap.size) {k : Nat} (hk : (((UK okp b1 k ∧ k ≠ g) ∧ k < wr.heap.size) ∨ W.heap.size ≤ k)) : UK okp b1 k ∧ k ≠ g := by
 rcases hk with hk | hk
 ·exact hk.1
 ·exact ⟨.inr (by omega), by omega⟩
theorem ok_new3 {okp : Nat → Prop} {wr W : World} {b1 g gI : Nat} (hb : b1 + 1 < wr.heap.size) (hg : g < wr.heap.size) (hI : gI < wr.heap.size) (hW : wr.heap.size ≤ W.heap.size) {k : Nat} (hk : ((((UK okp b1 k ∧ k ≠ g) ∧ k ≠ gI) ∧ k < wr.heap.size) ∨ W.heap.size ≤ k)) : (UK okp b1 k ∧ k ≠ g) ∧ k ≠ gI := by
 rcases hk with hk | hk
 ·exact hk.1
 ·exact ⟨⟨.inr (by omega), by omega⟩, by omega⟩
structure IB (w : World) (x : S55) (b1 : Nat) (A1 : Option Addr) (d1 : Nat) (A2 : Option Addr) (d2 : Nat) (g n cap i : Nat) (c : List Value) (xb : S31) (B0 A7 A8 : Option Addr) (ok : Nat → Prop) (wi : World) : Prop where
 ou : OU w x b1 (b1 + 1) A1 d1 A2 d2 (.slice (some ⟨g, 0, none⟩) n cap) ok wi
 row : RowAt k31 31 wi ok g n cap x.f6 i c
 F0 : Kd.F (Kd.int .i64) wi ok B0 xb.f0.length xb.f0
 F3 : Kd.F (Kd.int .i64) wi ok A7 xb.f2.f1.length xb.f2.f1
 F4 : Kd.F (Kd.int .i64) wi ok A8 xb.f2.f2.length xb.f2.f2
section
variable {w : World} {x : S55} {b1 : Nat} {A1 : Option Addr} {d1 : Nat} {A2 : Option Addr} {d2 : Nat} {g n cap i : Nat} {c : List Value} {xb : S31} {B0 A7 A8 : Option Addr} {ok ok' : Nat → Prop} {wi wj : World}
theorem IB.below (h : IB w x b1 A1 d1 A2 d2 g n cap i c xb B0 A7 A8 ok wi) (hb : Below wi.heap.size wi wj) : IB w x b1 A1 d1 A2 d2 g n cap i c xb B0 A7 A8 ok wj := ⟨h.ou.below hb, h.row.below hb, Kd.F_below h.F0 hb, Kd.F_below h.F3 hb, Kd.F_below h.F4 hb⟩
theorem IB.mono (h : IB w x b1 A1 d1 A2 d2 g n cap i c xb B0 A7 A8 ok wi) (hk : ∀ k, ok k → ok' k) : IB w x b1 A1 d1 A2 d2 g n cap i c xb B0 A7 A8 ok' wi := ⟨h.ou.mono hk, h.row.mono hk, Kd.F_mono h.F0 hk, Kd.F_mono h.F3 hk, Kd.F_mono h.F4 hk⟩
theorem IB.far (h : IB w x b1 A1 d1 A2 d2 g n cap i c xb B0 A7 A8 ok wi) {p : Addr} (hp : w.heap.size ≤ p.block) (h1 : b1 ≠ p.block) (h2 : b1 + 1 ≠ p.block) (h3 : g ≠ p.block) (hk : ∀ k, ok k → k ≠ p.block) (u : Value) : IB w x b1 A1 d1 A2 d2 g n cap i c xb B0 A7 A8 ok (wi.setCell p u) :=
 ⟨h.ou.far hp h1 h2 hk u, h.row.far hk h3 u, Kd.F_far h.F0 hk u, Kd.F_far h.F3 hk u, Kd.F_far h.F4 hk u⟩
theorem OU.at_row (h : OU w x b1 (b1 + 1) A1 d1 A2 d2 (.slice (some ⟨g, 0, none⟩) n cap) ok wi) (hg : w.heap.size < g) (hb : b1 + 1 < g) (hk : ∀ k, ok k → k ≠ g) (j : Nat) (u : Value) : OU w x b1 (b1 + 1) A1 d1 A2 d2 (.slice (some ⟨g, 0, none⟩) n cap) ok (wi.setCell ⟨g, j, none⟩ u) :=
 h.far (p := ⟨g, j, none⟩) (Nat.le_of_lt hg) (by show b1 ≠ g; omega) (by show b1 + 1 ≠ g; omega) hk u
end
def FC (okp : Nat → Prop) (w : World) (x : S55) (e : Ending) (w' : World) : Prop :=
 ∃ AP cP AR cR AB cB, e = .returned (.agg #[.string x.f0, .slice AP x.f1.length cP, .int .i64 x.f2, .slice AR x.f3.length cR, .int .i64 x.f4, .int .i64 x.f5, .slice AB x.f6.length cB]) ∧ x.f1.length ≤ cP ∧ x.f3.length ≤ cR ∧
  Kd.F (Kd.int .i64) w' (fun k => (okp k ∨ w.heap.size + 2 ≤ k) ∧ some k ≠ (Value.slice AB x.f6.length cB).ownBlock) AP x.f1.length x.f1 ∧ Kd.F (Kd.int .i64) w' (fun k => (okp k ∨ w.heap.size + 2 ≤ k) ∧ some k ≠ (Value.slice AB x.f6.length cB).ownBlock) AR x.f3.length x.f3 ∧
  Kd.N k31 31 w' 0 (fun k => okp k ∨ w.heap.size + 2 ≤ k) (.slice AB x.f6.length cB) x.f6 ∧ (∀ g, AB = some ⟨g, 0, none⟩ → w.heap.size ≤ g) ∧ Below w.heap.size w w'
set_option maxRecDepth 100000 in
set_option maxHeartbeats 8000000 in
theorem cln_any {w : World} {x : S55} {AP : Option Addr} {cP : Nat} {AR : Option Addr} {cR : Nat} {AB : Option Addr} {cB : Nat} {okp : Nat → Prop} (hok : ∀ k, okp k → k < w.heap.size) (gP : Kd.F (Kd.int .i64) w okp AP x.f1.length x.f1) (hP : x.f1.length ≤ cP) (gR : Kd.F (Kd.int .i64) w okp AR x.f3.length x.f3) (hR : x.f3.length ≤ cR) (gB : Kd.F k31 w okp AB x.f6.length x.f6) (hB : x.f6.length ≤ cB) (hz : szF x) :
  Calls Tryd.prog 38 #[.agg #[.string x.f0, .slice AP x.f1.length cP, .int .i64 x.f2, .slice AR x.f3.length cR, .int .i64 x.f4, .int .i64 x.f5, .slice AB x.f6.length cB]] w (FC okp w x) := by
 have hX := Aside0.mk (And.intro gP (And.intro gR (And.intro gB (And.intro hP (And.intro hR (And.intro hB hz))))))
 have hSz : Aside0 (x.f1.length * 8 ≤ 140737488355328 ∧ x.f3.length * 8 ≤ 140737488355328 ∧ x.f6.length * 136 ≤ 140737488355328 ∧ ∀ b ∈ x.f6, szB b) := ⟨hz⟩
 clear gP hP gR hR gB hB hz
 go_enter Tryd.func38, Tryd.ntmps38
 go_upto_region 1 with (fail)
 obtain ⟨w2, hw2⟩ : ∃ w2, (w.alloc (.cells #[.string x.f0, .slice AP x.f1.length cP, .int .i64 x.f2, .slice AR x.f3.length cR, .int .i64 x.f4, .int .i64 x.f5, .slice AB x.f6.length cB] 55 (0, 0))).alloc (.cells #[.string { data := #[] }, .slice none 0 0, .int .i64 0, .slice none 0 0, .int .i64 0, .int .i64 0, .slice none 0 0] 55 (0, 0)) = w2 := ⟨_, rfl⟩
 obtain ⟨b1, hb1⟩ : ∃ b1, w.heap.size = b1 := ⟨_, rfl⟩
 have z1 := box_two hw2 hb1
 rw [hw2, hb1]
 clear hw2
 obtain ⟨B2, z1, z2⟩ := z1
 have c1 : w2.cell? ⟨b1, 1, none⟩ = some (.slice AP x.f1.length cP) := cell_at z1 rfl
 have c3 : w2.cell? ⟨b1, 3, none⟩ = some (.slice AR x.f3.length cR) := cell_at z1 rfl
 have c6 : w2.cell? ⟨b1, 6, none⟩ = some (.slice AB x.f6.length cB) := cell_at z1 rfl
 have hZ := Aside0.mk (And.intro B2 (And.intro z1 (And.intro z2 hb1)))
 clear B2 z1 z2 hb1
 refine HeldL.begin_ (by kernel_rfl) ?_
 simp only [List.length_cons, List.length_nil, Nat.reduceAdd, List.replicate, Array.replicate]
 refine HeldL.pre_ (v := ?vv1412400) 0 rfl (by kernel_rfl) (by kernel_rfl) (by kernel_rfl) (fun _ _ _ h => h) (Or.inl ⟨by rfl, ?hy1412400⟩) ?_
 case hy1412400 => intro w; (go_simp <;> with_reducible rfl)
 try simp only [Act.put, List.setIfInBounds_toArray, List.set_cons_zero, List.set_cons_succ]
 refine HeldL.pre_ (v := ?vv1412403) 3 rfl (by kernel_rfl) (by kernel_rfl) (by kernel_rfl) (fun _ _ _ h => h) (Or.inl ⟨by rfl, ?hy1412403⟩) ?_
 case hy1412403 => intro w; (go_simp <;> with_reducible rfl)
 try simp only [Act.put, List.setIfInBounds_toArray, List.set_cons_zero, List.set_cons_succ]
 refine HeldL.pre_ (v := ?vv1412406) 6 rfl (by kernel_rfl) (by kernel_rfl) (by kernel_rfl) (fun _ _ _ h => h) (Or.inl ⟨by rfl, ?hy1412406⟩) ?_
 case hy1412406 => intro w; (go_simp <;> with_reducible rfl)
 try simp only [Act.put, List.setIfInBounds_toArray, List.set_cons_zero, List.set_cons_succ]
 refine HeldL.enter_ (S := fun w' => w'.cell? ⟨b1, 1, none⟩ = some (.slice AP x.f1.length cP) ∧ w'.cell? ⟨b1, 3, none⟩ = some (.slice AR x.f3.length cR) ∧ w'.cell? ⟨b1, 6, none⟩ = some (.slice AB x.f6.length cB)) 10 7 (by kernel_rfl) (by kernel_rfl) ⟨c1, c3, c6⟩ (fun hHeld => ?_)
 refine HeldL.take_ (v := ?vv1442101) 1 rfl rfl (by kernel_rfl) (by kernel_rfl) (fun _ _ _ h => h) (by assumption) (Or.inl ⟨by rfl, ?hy1442101⟩) ?_
 case hy1442101 => intro w hSw; (try dsimp only at hSw); (go_simp <;> with_reducible rfl)
 try simp only [Act.put, List.setIfInBounds_toArray, List.set_cons_zero, List.set_cons_succ]
 refine HeldL.take_ (v := ?vv1442104) 4 rfl rfl (by kernel_rfl) (by kernel_rfl) (fun _ _ _ h => h) (by assumption) (Or.inl ⟨by rfl, ?hy1442104⟩) ?_
 case hy1442104 => intro w hSw; (try dsimp only at hSw); (go_simp <;> with_reducible rfl)
 try simp only [Act.put, List.setIfInBounds_toArray, List.set_cons_zero, List.set_cons_succ]
 refine HeldL.take_ (v := ?vv1442107) 7 rfl rfl (by kernel_rfl) (by kernel_rfl) (fun _ _ _ h => h) (by assumption) (Or.inl ⟨by rfl, ?hy1442107⟩) ?_
 case hy1442107 => intro w hSw; (try dsimp only at hSw); (go_simp <;> with_reducible rfl)
 try simp only [Act.put, List.setIfInBounds_toArray, List.set_cons_zero, List.set_cons_succ]
 refine HeldL.step_ 2 rfl rfl (by kernel_rfl) (fun K hK => ?_)
 go_simp
 go_at_call 55
 with_reducible refine (cloneI_any AP cP x.f1 _ okp (Kd.F_drew (Kd.F_below hX.out.1 hZ.out.1)) (fun k hk => Nat.lt_of_lt_of_le (hok k hk) (Nat.le_trans hZ.out.1.size (below_drew (Below.refl 0 w2)).size)) hSz.out.1 hX.out.2.2.2.1).mono ?_
 rintro e w3 ⟨A1, d1, rfl, l1, N1, _, Bx⟩
 have B3 : Below w2.heap.size w2 w3 := (below_drew (Below.refl _ w2)).trans Bx
 have f1 : w3.cell? ⟨b1, 1, none⟩ = some (.slice AP x.f1.length cP) ∧ w3.cell? ⟨b1, 3, none⟩ = some (.slice AR x.f3.length cR) ∧ w3.cell? ⟨b1, 6, none⟩ = some (.slice AB x.f6.length cB) := ⟨(B3.cell (World.block_lt_of_cell? _ _ c1)).trans c1, (B3.cell (World.block_lt_of_cell? _ _ c3)).trans c3, (B3.cell (World.block_lt_of_cell? _ _ c6)).trans c6⟩
 have H3 := Aside0.mk (And.intro l1 (And.intro (Kd.F_mono (Kd.N_F N1) (fun k hk => ok_new (Nat.lt_of_lt_of_le (blk_lt' hZ.out.2.2.1) (below_drew (Below.refl 0 w2)).size) hk)) B3))
 clear l1 N1 Bx B3
 go_wp2_with fail
 refine hK.out _ _ f1 (fun hHeld2 => ?_)
 clear hK K
 try simp only [Act.put, List.setIfInBounds_toArray, List.set_cons_zero, List.set_cons_succ]
 refine HeldL.take_ (v := ?vv1563509) 9 rfl rfl (by kernel_rfl) (by kernel_rfl) (fun _ _ _ h => h) (by assumption) (Or.inl ⟨by rfl, ?hy1563509⟩) ?_
 case hy1563509 => intro w hSw; (try dsimp only at hSw); (go_simp <;> with_reducible rfl)
 try simp only [Act.put, List.setIfInBounds_toArray, List.set_cons_zero, List.set_cons_succ]
 refine HeldL.step_ 5 rfl rfl (by kernel_rfl) (fun K hK => ?_)
 go_simp
 go_at_call 56
 with_reducible refine (cloneT_any AR cR x.f3 w3 okp (Kd.F_below (Kd.F_below hX.out.2.1 hZ.out.1) H3.out.2.2) (fun k hk => Nat.lt_of_lt_of_le (hok k hk) (Nat.le_trans hZ.out.1.size H3.out.2.2.size)) hSz.out.2.1 hX.out.2.2.2.2.1).mono ?_
 rintro e w4 ⟨A2, d2, rfl, l2, N2, _, Bx⟩
 have B4 := bl1 H3.out.2.2 Bx
 have f2 : w4.cell? ⟨b1, 1, none⟩ = some (.slice AP x.f1.length cP) ∧ w4.cell? ⟨b1, 3, none⟩ = some (.slice AR x.f3.length cR) ∧ w4.cell? ⟨b1, 6, none⟩ = some (.slice AB x.f6.length cB) := ⟨(B4.cell (World.block_lt_of_cell? _ _ c1)).trans c1, (B4.cell (World.block_lt_of_cell? _ _ c3)).trans c3, (B4.cell (World.block_lt_of_cell? _ _ c6)).trans c6⟩
 have H4 := Aside0.mk (And.intro H3.out.1 (And.intro (Kd.F_below H3.out.2.1 Bx) (And.intro l2 (And.intro (Kd.F_mono (Kd.N_F N2) (fun k hk => ok_new (Nat.lt_of_lt_of_le (blk_lt' hZ.out.2.2.1) H3.out.2.2.size) hk)) B4))))
 clear l2 N2 Bx B4 H3
 go_wp2_with fail
 refine hK.out _ _ f2 (fun hHeld3 => ?_)
 clear hK K
 try simp only [Act.put, List.setIfInBounds_toArray, List.set_cons_zero, List.set_cons_succ]
 refine HeldL.step_ 8 rfl rfl (by kernel_rfl) (fun K hK => ?_)
 go_simp
 go_at_call 57
 with_reducible refine (cloneB_any AB cB x.f6 w4 okp (Kd.F_below (Kd.F_below hX.out.2.2.1 hZ.out.1) H4.out.2.2.2.2) (fun k hk => Nat.lt_of_lt_of_le (hok k hk) (Nat.le_trans hZ.out.1.size H4.out.2.2.2.2.size)) hSz.out.2.2.1 hX.out.2.2.2.2.2.1).mono ?_
 rintro e w5 ⟨A3, d3, rfl, l3, N3, hfr, Bx⟩
 have B5 := bl1 H4.out.2.2.2.2 Bx
 have f3 : w5.cell? ⟨b1, 1, none⟩ = some (.slice AP x.f1.length cP) ∧ w5.cell? ⟨b1, 3, none⟩ = some (.slice AR x.f3.length cR) ∧ w5.cell? ⟨b1, 6, none⟩ = some (.slice AB x.f6.length cB) := ⟨(B5.cell (World.block_lt_of_cell? _ _ c1)).trans c1, (B5.cell (World.block_lt_of_cell? _ _ c3)).trans c3, (B5.cell (World.block_lt_of_cell? _ _ c6)).trans c6⟩
 have H5 := Aside0.mk (And.intro H4.out.1 (And.intro (Kd.F_below (Kd.F_bound H4.out.2.1) Bx) (And.intro H4.out.2.2.1 (And.intro (Kd.F_below (Kd.F_bound H4.out.2.2.2.1) Bx) (And.intro H4.out.2.2.2.2.size (And.intro (Kd.N_mono N3 (fun k hk => ok_new (Nat.lt_of_lt_of_le (blk_lt' hZ.out.2.2.1) H4.out.2.2.2.2.size) hk)) (And.intro hfr B5)))))))
 clear l3 N3 Bx B5 H4 hfr
 have y1 := B5z (H5.out.2.2.2.2.2.2.2) hZ.out.2.1
 obtain ⟨cc1, cc3, cc6, ff⟩ := y1
 go_wp2_with fail
 refine hK.out _ _ f3 (fun hHeld4 => ?_)
 clear hK K
 try simp only [Act.put, List.setIfInBounds_toArray, List.set_cons_zero, List.set_cons_succ]
 refine HeldL.rest_ (by kernel_rfl) ?_
 simp only [List.drop_succ_cons, List.drop_zero]
 clear f1 f2 f3 hHeld hHeld2 hHeld3 hHeld4 c1 c3 c6
 go_upto_region 2 with (fail)
 obtain ⟨w6, hw6⟩ : ∃ w6, ((w5.setCell ⟨b1, 1, none⟩ (.slice A1 x.f1.length d1)).setCell ⟨b1, 3, none⟩ (.slice A2 x.f3.length d2)).setCell ⟨b1, 6, none⟩ (.slice A3 x.f6.length d3) = w6 := ⟨_, rfl⟩
 have h6 : Aside0 (OU w x b1 (b1 + 1) A1 d1 A2 d2 (.slice A3 x.f6.length d3) (fun k => UK okp b1 k ∧ some k ≠ (Value.slice A3 x.f6.length d3).ownBlock) w6 ∧ Kd.N k31 31 w6 0 (fun k => UK okp b1 k) (.slice A3 x.f6.length d3) x.f6 ∧ (∀ g, A3 = some ⟨g, 0, none⟩ → w.heap.size < g ∧ b1 + 1 < g)) :=
  ⟨ou_start (fun k hk => by have := hok k hk; have := hZ.out.2.2.2; omega) hZ.out.2.2.2 hZ.out.1 hZ.out.2.1 hZ.out.2.2.1 H5.out.2.2.2.2.1 H5.out.2.2.2.2.2.2.2 H5.out.1 H5.out.2.1 H5.out.2.2.1 H5.out.2.2.2.1 H5.out.2.2.2.2.2.1 H5.out.2.2.2.2.2.2.1 hw6⟩
 have hb1w := Aside0.mk hZ.out.2.2.2
 rw [hw6]
 clear hw6 H5 hZ hX cc1 cc3 cc6 ff
 have hbnB : x.f6.length ≤ 140737488355328 := by have := hSz.out.2.2.1; omega
 have c6 : w6.cell? ⟨b1, 6, none⟩ = some (.slice A3 x.f6.length d3) := cell_at h6.out.1.box rfl
 go_wp2_with fail
 clear c6
 go_loopg [23] x.f6.length (fun q v wi => ∃ i : Nat, i + q = x.f6.length ∧ v = .int .i64 (i : Int) ∧ Aside0 (OU w x b1 (b1 + 1) A1 d1 A2 d2 (.slice A3 x.f6.length d3) (fun k => UK okp b1 k ∧ some k ≠ (Value.slice A3 x.f6.length d3).ownBlock) wi ∧ Kd.N k31 31 wi 0 (fun k => UK okp b1 k) (.slice A3 x.f6.length d3) x.f6 ∧ (∀ g, A3 = some ⟨g, 0, none⟩ → w.heap.size < g ∧ b1 + 1 < g)))
 case atStart => exact ⟨0, by omega, rfl, h6⟩
 case round =>
  obtain ⟨i, hi, rfl, hJ⟩ := hrel
  clear h6
  by_cases hlt : i < x.f6.length
  ·have hlti : (i : Int) < x.f6.length := by omega
   have hi0 : (0 : Int) ≤ (i : Int) := by omega
   obtain ⟨gk1, rfl⟩ : ∃ q, gk = q + 1 := ⟨gk - 1, by omega⟩
   have hi1 : i + 1 + gk1 = x.f6.length := by omega
   have hgk1 : gk1 < gk1 + 1 := by omega
   obtain ⟨g, cq, eA, _, hglt, _⟩ := Kd.N_form hJ.out.2.1 (by omega)
   injection eA with eA _ ec
   subst eA
   obtain ⟨hg1, hg2⟩ := hJ.out.2.2 g rfl
   obtain ⟨c, hRow, hFK⟩ := RowAt.of_N hJ.out.2.1 hlt
   have hbx := hSz.out.2.2.2 x.f6[i] (List.getElem_mem hlt)
   have hxi : x.f6[i]? = some x.f6[i] := List.getElem?_eq_getElem hlt
   obtain ⟨xb, hxb⟩ : ∃ xb, x.f6[i] = xb := ⟨_, rfl⟩
   rw [hxb] at hFK hbx hxi
   obtain ⟨A0, e0, Ai, ei, A7, e7, A8, e8, A9, e9, rfl, l0, F0, l1, F1, l3, F3, l4, F4, l5, F5⟩ := k31_openF hFK
   obtain ⟨hcells, hfr⟩ := hRow.cells
   have x0 : wr.cell? ⟨g, i * 7, none⟩ = some (.slice A0 xb.f0.length e0) := hcells 0 _ rfl
   have x1 : wr.cell? ⟨g, i * 7 + 1, none⟩ = some (.slice Ai xb.f1.length ei) := hcells 1 _ rfl
   have c6 : wr.cell? ⟨b1, 6, none⟩ = some (.slice (some ⟨g, 0, none⟩) x.f6.length d3) := cell_at hJ.out.1.box rfl
   have hOU := Aside0.mk (hJ.out.1.mono (ok' := fun k => UK okp b1 k ∧ k ≠ g) (fun k hk => ⟨hk.1, fun e => hk.2 (by rw [e]; simp [Value.ownBlock])⟩))
   have hRow' := Aside0.mk (And.intro hRow (And.intro hxi (And.intro hg1 (And.intro hg2 hbx))))
   have hFs := Aside0.mk (And.intro l0 (And.intro F0 (And.intro l1 (And.intro F1 (And.intro l3 (And.intro F3 (And.intro l4 (And.intro F4 (And.intro l5 F5)))))))))
   clear hJ hRow hxi hg1 hg2 hbx hxb hFK hcells hfr l0 F0 l1 F1 l3 F3 l4 F4 l5 F5 ec
   go_upto_region 6 with (fail)
   have hb1r : b1 + 1 < wr.heap.size := by obtain ⟨cs, h1, _⟩ := hOU.out.res; exact blk_lt' h1
   refine HeldL.begin_ (by kernel_rfl) ?_
   simp only [List.length_cons, List.length_nil, Nat.reduceAdd, List.replicate, Array.replicate]
   refine HeldL.pre_ (v := ?vv2335300) 0 rfl (by kernel_rfl) (by kernel_rfl) (by kernel_rfl) (fun _ _ _ h => h) (Or.inl ⟨by rfl, ?hy2335300⟩) ?_
   case hy2335300 => intro w; (go_simp <;> with_reducible rfl)
   try simp only [Act.put, List.setIfInBounds_toArray, List.set_cons_zero, List.set_cons_succ]
   refine HeldL.pre_ (v := ?vv2335301) 1 rfl (by kernel_rfl) (by kernel_rfl) (by kernel_rfl) (fun _ _ _ h => h) (Or.inl ⟨by rfl, ?hy2335301⟩) ?_
   case hy2335301 => intro w; (go_simp <;> with_reducible rfl)
   try simp only [Act.put, List.setIfInBounds_toArray, List.set_cons_zero, List.set_cons_succ]
   refine HeldL.pre_ (v := ?vv2335302) 2 rfl (by kernel_rfl) (by kernel_rfl) (by kernel_rfl) (fun _ _ _ h => h) (Or.inl ⟨by rfl, ?hy2335302⟩) ?_
   case hy2335302 => intro w; (go_simp <;> with_reducible rfl)
   try simp only [Act.put, List.setIfInBounds_toArray, List.set_cons_zero, List.set_cons_succ]
   refine HeldL.pre_ (v := ?vv2335307) 7 rfl (by kernel_rfl) (by kernel_rfl) (by kernel_rfl) (fun _ _ _ h => h) (Or.inl ⟨by rfl, ?hy2335307⟩) ?_
   case hy2335307 => intro w; (go_simp <;> with_reducible rfl)
   try simp only [Act.put, List.setIfInBounds_toArray, List.set_cons_zero, List.set_cons_succ]
   refine HeldL.enter_ (S := fun w' => w'.cell? ⟨g, i * 7, none⟩ = some (.slice A0 xb.f0.length e0) ∧ w'.cell? ⟨g, i * 7 + 1, none⟩ = some (.slice Ai xb.f1.length ei)) 14 10 (by kernel_rfl) (by kernel_rfl) ⟨x0, x1⟩ (fun hHeld => ?_)
   refine HeldL.take_ (v := ?vv2230403) 3 rfl rfl (by kernel_rfl) (by kernel_rfl) (fun _ _ _ h => h) (by assumption) (Or.inl ⟨by rfl, ?hy2230403⟩) ?_
   case hy2230403 => intro w hSw; (try dsimp only at hSw); (go_simp <;> with_reducible rfl)
   try simp only [Act.put, List.setIfInBounds_toArray, List.set_cons_zero, List.set_cons_succ]
   refine HeldL.take_ (v := ?vv2230404) 4 rfl rfl (by kernel_rfl) (by kernel_rfl) (fun _ _ _ h => h) (by assumption) (Or.inl ⟨by rfl, ?hy2230404⟩) ?_
   case hy2230404 => intro w hSw; (try dsimp only at hSw); (go_simp <;> with_reducible rfl)
   try simp only [Act.put, List.setIfInBounds_toArray, List.set_cons_zero, List.set_cons_succ]
   refine HeldL.take_ (v := ?vv2230405) 5 rfl rfl (by kernel_rfl) (by kernel_rfl) (fun _ _ _ h => h) (by assumption) (Or.inl ⟨by rfl, ?hy2230405⟩) ?_
   case hy2230405 => intro w hSw; (try dsimp only at hSw); (go_simp <;> with_reducible rfl)
   try simp only [Act.put, List.setIfInBounds_toArray, List.set_cons_zero, List.set_cons_succ]
   refine HeldL.take_ (v := ?vv2230408) 8 rfl rfl (by kernel_rfl) (by kernel_rfl) (fun _ _ _ h => h) (by assumption) (Or.inl ⟨by rfl, ?hy2230408⟩) ?_
   case hy2230408 => intro w hSw; (try dsimp only at hSw); (go_simp <;> with_reducible rfl)
   try simp only [Act.put, List.setIfInBounds_toArray, List.set_cons_zero, List.set_cons_succ]
   refine HeldL.take_ (v := ?vv2230409) 9 rfl rfl (by kernel_rfl) (by kernel_rfl) (fun _ _ _ h => h) (by assumption) (Or.inl ⟨by rfl, ?hy2230409⟩) ?_
   case hy2230409 => intro w hSw; (try dsimp only at hSw); (go_simp <;> with_reducible rfl)
   try simp only [Act.put, List.setIfInBounds_toArray, List.set_cons_zero, List.set_cons_succ]
   refine HeldL.take_ (v := ?vv2230410) 10 rfl rfl (by kernel_rfl) (by kernel_rfl) (fun _ _ _ h => h) (by assumption) (Or.inl ⟨by rfl, ?hy2230410⟩) ?_
   case hy2230410 => intro w hSw; (try dsimp only at hSw); (go_simp <;> with_reducible rfl)
   try simp only [Act.put, List.setIfInBounds_toArray, List.set_cons_zero, List.set_cons_succ]
   refine HeldL.step_ 6 rfl rfl (by kernel_rfl) (fun K hK => ?_)
   go_simp
   go_at_call 55
   with_reducible refine (cloneI_any A0 e0 xb.f0 _ _ (Kd.F_drew (Kd.F_bound hFs.out.2.1)) (fun k hk => Nat.lt_of_lt_of_le hk.2 (below_drew (Below.refl 0 wr)).size) hRow'.out.2.2.2.2.1 hFs.out.1).mono ?_
   rintro e w3 ⟨B0, n0, rfl, m0, N0, _, Bx⟩
   have B3 : Below wr.heap.size wr w3 := (below_drew (Below.refl _ wr)).trans Bx
   have f1 : w3.cell? ⟨g, i * 7, none⟩ = some (.slice A0 xb.f0.length e0) ∧ w3.cell? ⟨g, i * 7 + 1, none⟩ = some (.slice Ai xb.f1.length ei) := ⟨(B3.cell (World.block_lt_of_cell? _ _ x0)).trans x0, (B3.cell (World.block_lt_of_cell? _ _ x1)).trans x1⟩
   have H3 := Aside0.mk (And.intro m0 (And.intro (Kd.F_mono (Kd.N_F N0) (fun k hk => ok_new2 hb1r hglt (below_drew (Below.refl 0 wr)).size hk)) B3))
   clear m0 N0 Bx B3
   go_wp2_with fail
   refine hK.out _ _ f1 (fun hHeld2 => ?_)
   clear hK K
   try simp only [Act.put, List.setIfInBounds_toArray, List.set_cons_zero, List.set_cons_succ]
   refine HeldL.step_ 11 rfl rfl (by kernel_rfl) (fun K hK => ?_)
   go_simp
   go_at_call 58
   with_reducible refine (cloneN_any Ai ei xb.f1 w3 _ (Kd.F_below (Kd.F_bound hFs.out.2.2.2.1) H3.out.2.2) (fun k hk => Nat.lt_of_lt_of_le hk.2 H3.out.2.2.size) hRow'.out.2.2.2.2.2.1 hFs.out.2.2.1).mono ?_
   rintro e w4 ⟨B1, n1, rfl, m1, N1, hfr1, Bx⟩
   have B4 := bl1 H3.out.2.2 Bx
   have f2 : w4.cell? ⟨g, i * 7, none⟩ = some (.slice A0 xb.f0.length e0) ∧ w4.cell? ⟨g, i * 7 + 1, none⟩ = some (.slice Ai xb.f1.length ei) := ⟨(B4.cell (World.block_lt_of_cell? _ _ x0)).trans x0, (B4.cell (World.block_lt_of_cell? _ _ x1)).trans x1⟩
   have hRow4 := hRow'.out.1.below B4
   obtain ⟨hc4, hf4⟩ := hRow4.cells
   have z0 : w4.frozen? ⟨g, i * 7, none⟩ = false := hf4 0
   have z1 : w4.frozen? ⟨g, i * 7 + 1, none⟩ = false := hf4 1
   have x0' := f2.1
   have x1' := f2.2
   have H4 := Aside0.mk (And.intro H3.out.1 (And.intro (Kd.F_below (Kd.F_bound H3.out.2.1) Bx) (And.intro m1 (And.intro (Kd.N_mono N1 (fun k hk => ok_new2 hb1r hglt H3.out.2.2.size hk)) (And.intro hfr1 (And.intro H3.out.2.2.size (And.intro B4 hRow4)))))))
   clear m1 N1 Bx B4 H3 hfr1 hRow4 hc4 hf4
   go_wp2_with fail
   refine hK.out _ _ f2 (fun hHeld3 => ?_)
   clear hK K
   try simp only [Act.put, List.setIfInBounds_toArray, List.set_cons_zero, List.set_cons_succ]
   refine HeldL.take_ (v := ?vv2485712) 12 rfl rfl (by kernel_rfl) (by kernel_rfl) (fun _ _ _ h => h) (by assumption) (Or.inl ⟨by rfl, ?hy2485712⟩) ?_
   case hy2485712 => intro w hSw; (try dsimp only at hSw); (go_simp <;> with_reducible rfl)
   try simp only [Act.put, List.setIfInBounds_toArray, List.set_cons_zero, List.set_cons_succ]
   refine HeldL.take_ (v := ?vv2485713) 13 rfl rfl (by kernel_rfl) (by kernel_rfl) (fun _ _ _ h => h) (by assumption) (Or.inl ⟨by rfl, ?hy2485713⟩) ?_
   case hy2485713 => intro w hSw; (try dsimp only at hSw); (go_simp <;> with_reducible rfl)
   try simp only [Act.put, List.setIfInBounds_toArray, List.set_cons_zero, List.set_cons_succ]
   refine HeldL.rest_ (by kernel_rfl) ?_
   simp only [List.drop_succ_cons, List.drop_zero]
   clear f1 f2 hHeld hHeld2 hHeld3
   go_upto_region 7 with (fail)
   obtain ⟨w5, hw5⟩ : ∃ w5, (w4.setCell ⟨g, i * 7, none⟩ (.slice B0 xb.f0.length n0)).setCell ⟨g, i * 7 + 1, none⟩ (.slice B1 xb.f1.length n1) = w5 := ⟨_, rfl⟩
   have h5 : Aside0 (IB w x b1 A1 d1 A2 d2 g x.f6.length d3 i [.slice B0 xb.f0.length n0, .slice B1 xb.f1.length n1, .int .i64 xb.f2.f0, .slice A7 xb.f2.f1.length e7, .slice A8 xb.f2.f2.length e8, .slice A9 xb.f2.f3.length e9, .int .i64 xb.f2.f4] xb B0 A7 A8 (fun k => (UK okp b1 k ∧ k ≠ g) ∧ k < w3.heap.size) w5 ∧ Kd.F k98 w5 (fun k => (UK okp b1 k ∧ k ≠ g) ∧ k < w3.heap.size) A9 xb.f2.f3.length xb.f2.f3 ∧ Kd.N k48 48 w5 0 (fun k => UK okp b1 k ∧ k ≠ g) (.slice B1 xb.f1.length n1) xb.f1) := by
    have hg1 := hRow'.out.2.2.1
    have hg2 := hRow'.out.2.2.2.1
    have h34 : wr.heap.size ≤ w3.heap.size := H4.out.2.2.2.2.2.1
    have bd : ∀ k, ((UK okp b1 k ∧ k ≠ g) ∧ k < wr.heap.size) → (UK okp b1 k ∧ k ≠ g) ∧ k < w3.heap.size := fun k hk => ⟨hk.1, Nat.lt_of_lt_of_le hk.2 h34⟩
    have hkg : ∀ k, ((UK okp b1 k ∧ k ≠ g) ∧ k < w3.heap.size) → k ≠ g := fun k hk => hk.1.2
    have B4 := H4.out.2.2.2.2.2.2.1
    have r4 := ((hRow'.out.1.bound.below B4).mono bd)
    have ou4 := ((hOU.out.bound.below B4).mono bd)
    have f3 := Kd.F_mono (Kd.F_below (Kd.F_bound hFs.out.2.2.2.2.2.1) B4) bd
    have f4 := Kd.F_mono (Kd.F_below (Kd.F_bound hFs.out.2.2.2.2.2.2.2.1) B4) bd
    have f5 := Kd.F_mono (Kd.F_below (Kd.F_bound hFs.out.2.2.2.2.2.2.2.2.2) B4) bd
    rw [← hw5]
    refine ⟨⟨(ou4.at_row hg1 hg2 hkg _ _).at_row hg1 hg2 hkg _ _, ?_, ?_, ?_, ?_⟩, ?_, ?_⟩
    ·exact (r4.put hkg (j := 0) (by decide) (by simp [Value.oneCell'])).put hkg (j := 1) (by decide) (by simp [Value.oneCell'])
    ·exact Kd.F_far (Kd.F_far H4.out.2.1 (p := ⟨g, i * 7, none⟩) hkg _) (p := ⟨g, i * 7 + 1, none⟩) hkg _
    ·exact Kd.F_far (Kd.F_far f3 (p := ⟨g, i * 7, none⟩) hkg _) (p := ⟨g, i * 7 + 1, none⟩) hkg _
    ·exact Kd.F_far (Kd.F_far f4 (p := ⟨g, i * 7, none⟩) hkg _) (p := ⟨g, i * 7 + 1, none⟩) hkg _
    ·exact Kd.F_far (Kd.F_far f5 (p := ⟨g, i * 7, none⟩) hkg _) (p := ⟨g, i * 7 + 1, none⟩) hkg _
    ·exact Kd.N_far (Kd.N_far H4.out.2.2.2.1 (p := ⟨g, i * 7, none⟩) (fun k hk => hk.2) _) (p := ⟨g, i * 7 + 1, none⟩) (fun k hk => hk.2) _
   have h5b := Aside0.mk (And.intro H4.out.1 (And.intro H4.out.2.2.1 (And.intro H4.out.2.2.2.2.1 (And.intro (Nat.lt_of_lt_of_le hb1r H4.out.2.2.2.2.2.1) (Nat.lt_of_lt_of_le hglt H4.out.2.2.2.2.2.1)))))
   rw [hw5]
   clear hw5 H4 hOU x0 x1 x0' x1' z0 z1
   have hbnd : xb.f1.length ≤ 140737488355328 := by have := hRow'.out.2.2.2.2.2.1; omega
   have y1 : w5.cell? ⟨g, i * 7 + 1, none⟩ = some (.slice B1 xb.f1.length n1) := h5.out.1.row.cells.1 1 _ rfl
   go_wp2_with fail
   clear y1
   go_loopg [51] xb.f1.length (fun q v wi => ∃ k : Nat, k + q = xb.f1.length ∧ v = .int .i64 (k : Int) ∧ Aside0 (IB w x b1 A1 d1 A2 d2 g x.f6.length d3 i [.slice B0 xb.f0.length n0, .slice B1 xb.f1.length n1, .int .i64 xb.f2.f0, .slice A7 xb.f2.f1.length e7, .slice A8 xb.f2.f2.length e8, .slice A9 xb.f2.f3.length e9, .int .i64 xb.f2.f4] xb B0 A7 A8 (fun k => (UK okp b1 k ∧ k ≠ g) ∧ k < w3.heap.size) wi ∧ Kd.F k98 wi (fun k => (UK okp b1 k ∧ k ≠ g) ∧ k < w3.heap.size) A9 xb.f2.f3.length xb.f2.f3 ∧ Kd.N k48 48 wi 0 (fun k => UK okp b1 k ∧ k ≠ g) (.slice B1 xb.f1.length n1) xb.f1))
   case atStart => exact ⟨0, by omega, rfl, h5⟩
   case round =>
    obtain ⟨k, hk, rfl, hG⟩ := hrel
    clear h5
    by_cases hlk : k < xb.f1.length
    ·have hlki : (k : Int) < xb.f1.length := by omega
     have hk0 : (0 : Int) ≤ (k : Int) := by omega
     obtain ⟨gk2, rfl⟩ : ∃ q, gk = q + 1 := ⟨gk - 1, by omega⟩
     have hk1 : k + 1 + gk2 = xb.f1.length := by omega
     have hgk2 : gk2 < gk2 + 1 := by omega
     obtain ⟨gI, cq, eA, _, hgI, _⟩ := Kd.N_form hG.out.2.2 (by omega)
     injection eA with eA _ ec
     subst eA
     obtain ⟨ce, hEl, hFE⟩ := RowAt.of_N hG.out.2.2 hlk
     have hae := hRow'.out.2.2.2.2.2.2.1 xb.f1[k] (List.getElem_mem hlk)
     have hxk : xb.f1[k]? = some xb.f1[k] := List.getElem?_eq_getElem hlk
     obtain ⟨xe, hxe⟩ : ∃ xe, xb.f1[k] = xe := ⟨_, rfl⟩
     rw [hxe] at hFE hae hxk
     obtain ⟨Aa, ea, rfl, la, Fa⟩ := k48_openF hFE
     have v1 : wr.cell? ⟨g, i * 7 + 1, none⟩ = some (.slice (some ⟨gI, 0, none⟩) xb.f1.length n1) := hG.out.1.row.cells.1 1 _ rfl
     have v2 : wr.cell? ⟨gI, k * 8 + 3, none⟩ = some (.slice Aa xe.f3.length ea) := hEl.cells.1 3 _ rfl
     have hEs := Aside0.mk (And.intro hEl (And.intro hxk (And.intro hae (And.intro la (And.intro Fa hgI)))))
     clear hEl hxk hae la Fa hxe hFE ec
     go_upto_region 10 with (fail)
     refine Held.begin_ (S := fun w' => w'.cell? ⟨g, i * 7 + 1, none⟩ = some (.slice (some ⟨gI, 0, none⟩) xb.f1.length n1) ∧ w'.cell? ⟨gI, k * 8 + 3, none⟩ = some (.slice Aa xe.f3.length ea)) 16 (by kernel_rfl) (by kernel_rfl) ?_ (fun hHeld => ?_)
     ·exact ⟨v1, v2⟩
     simp only [List.length_cons, List.length_nil, Nat.reduceAdd, List.replicate, Array.replicate]
     refine Held.take_ (v := ?vv3023600) 0 rfl rfl (by kernel_rfl) (by kernel_rfl) (fun _ _ _ h => h) (by assumption) (Or.inl ⟨by rfl, ?hy3023600⟩) ?_
     case hy3023600 => intro w hSw; (try dsimp only at hSw); (go_simp <;> with_reducible rfl)
     try simp only [Act.put, List.setIfInBounds_toArray, List.set_cons_zero, List.set_cons_succ]
     refine Held.take_ (v := ?vv3023601) 1 rfl rfl (by kernel_rfl) (by kernel_rfl) (fun _ _ _ h => h) (by assumption) (Or.inl ⟨by rfl, ?hy3023601⟩) ?_
     case hy3023601 => intro w hSw; (try dsimp only at hSw); (go_simp <;> with_reducible rfl)
     try simp only [Act.put, List.setIfInBounds_toArray, List.set_cons_zero, List.set_cons_succ]
     refine Held.take_ (v := ?vv3023602) 2 rfl rfl (by kernel_rfl) (by kernel_rfl) (fun _ _ _ h => h) (by assumption) (Or.inl ⟨by rfl, ?hy3023602⟩) ?_
     case hy3023602 => intro w hSw; (try dsimp only at hSw); (go_simp <;> with_reducible rfl)
     try simp only [Act.put, List.setIfInBounds_toArray, List.set_cons_zero, List.set_cons_succ]
     refine Held.take_ (v := ?vv3023603) 3 rfl rfl (by kernel_rfl) (by kernel_rfl) (fun _ _ _ h => h) (by assumption) (Or.inl ⟨by rfl, ?hy3023603⟩) ?_
     case hy3023603 => intro w hSw; (try dsimp only at hSw); (go_simp <;> with_reducible rfl)
     try simp only [Act.put, List.setIfInBounds_toArray, List.set_cons_zero, List.set_cons_succ]
     refine Held.take_ (v := ?vv3023604) 4 rfl rfl (by kernel_rfl) (by kernel_rfl) (fun _ _ _ h => h) (by assumption) (Or.inl ⟨by rfl, ?hy3023604⟩) ?_
     case hy3023604 => intro w hSw; (try dsimp only at hSw); (go_simp <;> with_reducible rfl)
     try simp only [Act.put, List.setIfInBounds_toArray, List.set_cons_zero, List.set_cons_succ]
     refine Held.take_ (v := ?vv3023605) 5 rfl rfl (by kernel_rfl) (by kernel_rfl) (fun _ _ _ h => h) (by assumption) (Or.inl ⟨by rfl, ?hy3023605⟩) ?_
     case hy3023605 => intro w hSw; (try dsimp only at hSw); (go_simp <;> with_reducible rfl)
     try simp only [Act.put, List.setIfInBounds_toArray, List.set_cons_zero, List.set_cons_succ]
     refine Held.take_ (v := ?vv3023606) 6 rfl rfl (by kernel_rfl) (by kernel_rfl) (fun _ _ _ h => h) (by assumption) (Or.inl ⟨by rfl, ?hy3023606⟩) ?_
     case hy3023606 => intro w hSw; (try dsimp only at hSw); (go_simp <;> with_reducible rfl)
     try simp only [Act.put, List.setIfInBounds_toArray, List.set_cons_zero, List.set_cons_succ]
     refine Held.take_ (v := ?vv3023607) 7 rfl rfl (by kernel_rfl) (by kernel_rfl) (fun _ _ _ h => h) (by assumption) (Or.inl ⟨by rfl, ?hy3023607⟩) ?_
     case hy3023607 => intro w hSw; (try dsimp only at hSw); (go_simp <;> with_reducible rfl)
     try simp only [Act.put, List.setIfInBounds_toArray, List.set_cons_zero, List.set_cons_succ]
     refine Held.take_ (v := ?vv3023608) 8 rfl rfl (by kernel_rfl) (by kernel_rfl) (fun _ _ _ h => h) (by assumption) (Or.inl ⟨by rfl, ?hy3023608⟩) ?_
     case hy3023608 => intro w hSw; (try dsimp only at hSw); (go_simp <;> with_reducible rfl)
     try simp only [Act.put, List.setIfInBounds_toArray, List.set_cons_zero, List.set_cons_succ]
     refine Held.take_ (v := ?vv3023609) 9 rfl rfl (by kernel_rfl) (by kernel_rfl) (fun _ _ _ h => h) (by assumption) (Or.inl ⟨by rfl, ?hy3023609⟩) ?_
     case hy3023609 => intro w hSw; (try dsimp only at hSw); (go_simp <;> with_reducible rfl)
     try simp only [Act.put, List.setIfInBounds_toArray, List.set_cons_zero, List.set_cons_succ]
     refine Held.take_ (v := ?vv3023610) 10 rfl rfl (by kernel_rfl) (by kernel_rfl) (fun _ _ _ h => h) (by assumption) (Or.inl ⟨by rfl, ?hy3023610⟩) ?_
     case hy3023610 => intro w hSw; (try dsimp only at hSw); (go_simp <;> with_reducible rfl)
     try simp only [Act.put, List.setIfInBounds_toArray, List.set_cons_zero, List.set_cons_succ]
     refine Held.take_ (v := ?vv3023611) 11 rfl rfl (by kernel_rfl) (by kernel_rfl) (fun _ _ _ h => h) (by assumption) (Or.inl ⟨by rfl, ?hy3023611⟩) ?_
     case hy3023611 => intro w hSw; (try dsimp only at hSw); (go_simp <;> with_reducible rfl)
     try simp only [Act.put, List.setIfInBounds_toArray, List.set_cons_zero, List.set_cons_succ]
     refine Held.take_ (v := ?vv3023612) 12 rfl rfl (by kernel_rfl) (by kernel_rfl) (fun _ _ _ h => h) (by assumption) (Or.inl ⟨by rfl, ?hy3023612⟩) ?_
     case hy3023612 => intro w hSw; (try dsimp only at hSw); (go_simp <;> with_reducible rfl)
     try simp only [Act.put, List.setIfInBounds_toArray, List.set_cons_zero, List.set_cons_succ]
     refine Held.step_ 13 rfl rfl (by kernel_rfl) (fun K hK => ?_)
     go_simp
     go_at_call 55
     with_reducible refine (cloneI_any Aa ea xe.f3 _ _ (Kd.F_drew (Kd.F_bound hEs.out.2.2.2.2.1)) (fun k hk => Nat.lt_of_lt_of_le hk.2 (below_drew (Below.refl 0 wr)).size) hEs.out.2.2.1 hEs.out.2.2.2.1).mono ?_
     rintro e w6 ⟨Ab, nb, rfl, mb, Nb, _, Bx⟩
     have B6 : Below wr.heap.size wr w6 := (below_drew (Below.refl _ wr)).trans Bx
     have f1 : w6.cell? ⟨g, i * 7 + 1, none⟩ = some (.slice (some ⟨gI, 0, none⟩) xb.f1.length n1) ∧ w6.cell? ⟨gI, k * 8 + 3, none⟩ = some (.slice Aa xe.f3.length ea) := ⟨(B6.cell (World.block_lt_of_cell? _ _ v1)).trans v1, (B6.cell (World.block_lt_of_cell? _ _ v2)).trans v2⟩
     have v2' := f1.2
     have hEl6 := hEs.out.1.below B6
     have z2 : w6.frozen? ⟨gI, k * 8 + 3, none⟩ = false := hEl6.cells.2 3
     have H6 := Aside0.mk (And.intro mb (And.intro (Kd.F_mono (Kd.N_F Nb) (fun k hk => ok_new3 (Nat.lt_of_lt_of_le h5b.out.2.2.2.1 (Nat.le_of_lt (Nat.lt_of_le_of_lt (h5b.out.2.2.1 gI rfl) hEs.out.2.2.2.2.2))) (Nat.lt_of_lt_of_le h5b.out.2.2.2.2 (Nat.le_of_lt (Nat.lt_of_le_of_lt (h5b.out.2.2.1 gI rfl) hEs.out.2.2.2.2.2))) hEs.out.2.2.2.2.2 (below_drew (Below.refl 0 wr)).size hk)) (And.intro B6 hEl6)))
     clear mb Nb Bx B6 hEl6
     go_wp2_with fail
     refine hK.out _ _ f1 (fun hHeld2 => ?_)
     clear hK K
     try simp only [Act.put, List.setIfInBounds_toArray, List.set_cons_zero, List.set_cons_succ]
     refine Held.take_ (v := ?vv3184914) 14 rfl rfl (by kernel_rfl) (by kernel_rfl) (fun _ _ _ h => h) (by assumption) (Or.inl ⟨by rfl, ?hy3184914⟩) ?_
     case hy3184914 => intro w hSw; (try dsimp only at hSw); (go_simp <;> with_reducible rfl)
     try simp only [Act.put, List.setIfInBounds_toArray, List.set_cons_zero, List.set_cons_succ]
     refine Held.take_ (v := ?vv3184915) 15 rfl rfl (by kernel_rfl) (by kernel_rfl) (fun _ _ _ h => h) (by assumption) (Or.inl ⟨by rfl, ?hy3184915⟩) ?_
     case hy3184915 => intro w hSw; (try dsimp only at hSw); (go_simp <;> with_reducible rfl)
     try simp only [Act.put, List.setIfInBounds_toArray, List.set_cons_zero, List.set_cons_succ]
     refine Held.rest_ (by kernel_rfl) ?_
     simp only [List.drop_succ_cons, List.drop_zero]
     clear f1 hHeld hHeld2
     go_upto_region 11 with (fail)
     obtain ⟨w7, hw7⟩ : ∃ w7, w6.setCell ⟨gI, k * 8 + 3, none⟩ (.slice Ab xe.f3.length nb) = w7 := ⟨_, rfl⟩
     have hI7 : Aside0 (IB w x b1 A1 d1 A2 d2 g x.f6.length d3 i [.slice B0 xb.f0.length n0, .slice (some ⟨gI, 0, none⟩) xb.f1.length n1, .int .i64 xb.f2.f0, .slice A7 xb.f2.f1.length e7, .slice A8 xb.f2.f2.length e8, .slice A9 xb.f2.f3.length e9, .int .i64 xb.f2.f4] xb B0 A7 A8 (fun k => (UK okp b1 k ∧ k ≠ g) ∧ k < w3.heap.size) w7 ∧ Kd.F k98 w7 (fun k => (UK okp b1 k ∧ k ≠ g) ∧ k < w3.heap.size) A9 xb.f2.f3.length xb.f2.f3 ∧ Kd.N k48 48 w7 0 (fun k => UK okp b1 k ∧ k ≠ g) (.slice (some ⟨gI, 0, none⟩) xb.f1.length n1) xb.f1) := by
      have hI3 := h5b.out.2.2.1 gI rfl
      have hb13 := h5b.out.2.2.2.1
      have hg3 := h5b.out.2.2.2.2
      have hg1 := hRow'.out.2.2.1
      have hkI : ∀ k, ((UK okp b1 k ∧ k ≠ g) ∧ k < w3.heap.size) → k ≠ gI := fun k hk => by have := hk.2; omega
      rw [← hw7]
      refine ⟨(hG.out.1.below H6.out.2.2.1).far (p := ⟨gI, k * 8 + 3, none⟩) (by show w.heap.size ≤ gI; omega) (by show b1 ≠ gI; omega) (by show b1 + 1 ≠ gI; omega) (by show g ≠ gI; omega) hkI _, Kd.F_far (Kd.F_below hG.out.2.1 H6.out.2.2.1) (p := ⟨gI, k * 8 + 3, none⟩) hkI _, ?_⟩
      have hput := H6.out.2.2.2.put (fun k hk => hk.2) (j := 3) (by decide) (u := .slice Ab xe.f3.length nb) (by simp [Value.oneCell'])
      refine Kd.N_mono (hput.to_N hEs.out.2.1 ?_ (fun k hk => hk.2)) (fun k hk => ?_)
      ·exact k48_mkF _ _ xe H6.out.1 (Kd.F_far H6.out.2.1 (p := ⟨gI, k * 8 + 3, none⟩) (fun k hk => hk.2) _)
      ·rcases hk with hk | hk
       ·exact hk.1
       ·subst hk; exact ⟨.inr (by omega), by omega⟩
     rw [hw7]
     clear hw7 H6 hEs hG v1 v2 v2' z2
     go_wp2_with fail
     go_roundg gk2
     case rel => exact ⟨k + 1, hk1, by go_num, hI7⟩
     case measure => exact hgk2
    ·have hG1 : Aside0 (IB w x b1 A1 d1 A2 d2 g x.f6.length d3 i [.slice B0 xb.f0.length n0, .slice B1 xb.f1.length n1, .int .i64 xb.f2.f0, .slice A7 xb.f2.f1.length e7, .slice A8 xb.f2.f2.length e8, .slice A9 xb.f2.f3.length e9, .int .i64 xb.f2.f4] xb B0 A7 A8 (fun k => UK okp b1 k ∧ k ≠ g) wr ∧ Kd.F k98 wr (fun k => UK okp b1 k ∧ k ≠ g) A9 xb.f2.f3.length xb.f2.f3 ∧ Kd.F k48 wr (fun k => UK okp b1 k ∧ k ≠ g) B1 xb.f1.length xb.f1) := ⟨hG.out.1.mono (fun k hk => hk.1), Kd.F_mono hG.out.2.1 (fun k hk => hk.1), Kd.N_F hG.out.2.2⟩
     have hszs : Aside0 (b1 + 1 < wr.heap.size ∧ g < wr.heap.size) := ⟨by obtain ⟨cs, h1, _⟩ := hG.out.1.ou.res; exact blk_lt' h1, hG.out.1.row.lt⟩
     have hle : Aside0 (xb.f0.length ≤ n0 ∧ xb.f1.length ≤ n1 ∧ xb.f2.f1.length ≤ e7 ∧ xb.f2.f2.length ≤ e8 ∧ xb.f2.f3.length ≤ e9) := ⟨h5b.out.1, h5b.out.2.1, hFs.out.2.2.2.2.1, hFs.out.2.2.2.2.2.2.1, hFs.out.2.2.2.2.2.2.2.2.1⟩
     clear hG h5b hFs
     have x3 : wr.cell? ⟨g, i * 7 + 2 + 1, none⟩ = some (.slice A7 xb.f2.f1.length e7) := hG1.out.1.row.cells.1 3 _ rfl
     have x4 : wr.cell? ⟨g, i * 7 + 2 + 2, none⟩ = some (.slice A8 xb.f2.f2.length e8) := hG1.out.1.row.cells.1 4 _ rfl
     have x5 : wr.cell? ⟨g, i * 7 + 2 + 3, none⟩ = some (.slice A9 xb.f2.f3.length e9) := hG1.out.1.row.cells.1 5 _ rfl
     go_upto_region 13 with (fail)
     refine HeldL.begin_ (by kernel_rfl) ?_
     simp only [List.length_cons, List.length_nil, Nat.reduceAdd, List.replicate, Array.replicate]
     refine HeldL.pre_ (v := ?vv4483300) 0 rfl (by kernel_rfl) (by kernel_rfl) (by kernel_rfl) (fun _ _ _ h => h) (Or.inl ⟨by rfl, ?hy4483300⟩) ?_
     case hy4483300 => intro w; (go_simp <;> with_reducible rfl)
     try simp only [Act.put, List.setIfInBounds_toArray, List.set_cons_zero, List.set_cons_succ]
     refine HeldL.pre_ (v := ?vv4483301) 1 rfl (by kernel_rfl) (by kernel_rfl) (by kernel_rfl) (fun _ _ _ h => h) (Or.inl ⟨by rfl, ?hy4483301⟩) ?_
     case hy4483301 => intro w; (go_simp <;> with_reducible rfl)
     try simp only [Act.put, List.setIfInBounds_toArray, List.set_cons_zero, List.set_cons_succ]
     refine HeldL.pre_ (v := ?vv4483302) 2 rfl (by kernel_rfl) (by kernel_rfl) (by kernel_rfl) (fun _ _ _ h => h) (Or.inl ⟨by rfl, ?hy4483302⟩) ?_
     case hy4483302 => intro w; (go_simp <;> with_reducible rfl)
     try simp only [Act.put, List.setIfInBounds_toArray, List.set_cons_zero, List.set_cons_succ]
     refine HeldL.pre_ (v := ?vv4483303) 3 rfl (by kernel_rfl) (by kernel_rfl) (by kernel_rfl) (fun _ _ _ h => h) (Or.inl ⟨by rfl, ?hy4483303⟩) ?_
     case hy4483303 => intro w; (go_simp <;> with_reducible rfl)
     try simp only [Act.put, List.setIfInBounds_toArray, List.set_cons_zero, List.set_cons_succ]
     refine HeldL.pre_ (v := ?vv4483308) 8 rfl (by kernel_rfl) (by kernel_rfl) (by kernel_rfl) (fun _ _ _ h => h) (Or.inl ⟨by rfl, ?hy4483308⟩) ?_
     case hy4483308 => intro w; (go_simp <;> with_reducible rfl)
     try simp only [Act.put, List.setIfInBounds_toArray, List.set_cons_zero, List.set_cons_succ]
     refine HeldL.pre_ (v := ?vv4483313) 13 rfl (by kernel_rfl) (by kernel_rfl) (by kernel_rfl) (fun _ _ _ h => h) (Or.inl ⟨by rfl, ?hy4483313⟩) ?_
     case hy4483313 => intro w; (go_simp <;> with_reducible rfl)
     try simp only [Act.put, List.setIfInBounds_toArray, List.set_cons_zero, List.set_cons_succ]
     refine HeldL.enter_ (S := fun w' => w'.cell? ⟨g, i * 7 + 2 + 1, none⟩ = some (.slice A7 xb.f2.f1.length e7) ∧ w'.cell? ⟨g, i * 7 + 2 + 2, none⟩ = some (.slice A8 xb.f2.f2.length e8) ∧ w'.cell? ⟨g, i * 7 + 2 + 3, none⟩ = some (.slice A9 xb.f2.f3.length e9)) 20 14 (by kernel_rfl) (by kernel_rfl) ⟨x3, x4, x5⟩ (fun hHeld => ?_)
     refine HeldL.take_ (v := ?vv4117104) 4 rfl rfl (by kernel_rfl) (by kernel_rfl) (fun _ _ _ h => h) (by assumption) (Or.inl ⟨by rfl, ?hy4117104⟩) ?_
     case hy4117104 => intro w hSw; (try dsimp only at hSw); (go_simp <;> with_reducible rfl)
     try simp only [Act.put, List.setIfInBounds_toArray, List.set_cons_zero, List.set_cons_succ]
     refine HeldL.take_ (v := ?vv4117105) 5 rfl rfl (by kernel_rfl) (by kernel_rfl) (fun _ _ _ h => h) (by assumption) (Or.inl ⟨by rfl, ?hy4117105⟩) ?_
     case hy4117105 => intro w hSw; (try dsimp only at hSw); (go_simp <;> with_reducible rfl)
     try simp only [Act.put, List.setIfInBounds_toArray, List.set_cons_zero, List.set_cons_succ]
     refine HeldL.take_ (v := ?vv4117106) 6 rfl rfl (by kernel_rfl) (by kernel_rfl) (fun _ _ _ h => h) (by assumption) (Or.inl ⟨by rfl, ?hy4117106⟩) ?_
     case hy4117106 => intro w hSw; (try dsimp only at hSw); (go_simp <;> with_reducible rfl)
     try simp only [Act.put, List.setIfInBounds_toArray, List.set_cons_zero, List.set_cons_succ]
     refine HeldL.take_ (v := ?vv4117109) 9 rfl rfl (by kernel_rfl) (by kernel_rfl) (fun _ _ _ h => h) (by assumption) (Or.inl ⟨by rfl, ?hy4117109⟩) ?_
     case hy4117109 => intro w hSw; (try dsimp only at hSw); (go_simp <;> with_reducible rfl)
     try simp only [Act.put, List.setIfInBounds_toArray, List.set_cons_zero, List.set_cons_succ]
     refine HeldL.take_ (v := ?vv4117110) 10 rfl rfl (by kernel_rfl) (by kernel_rfl) (fun _ _ _ h => h) (by assumption) (Or.inl ⟨by rfl, ?hy4117110⟩) ?_
     case hy4117110 => intro w hSw; (try dsimp only at hSw); (go_simp <;> with_reducible rfl)
     try simp only [Act.put, List.setIfInBounds_toArray, List.set_cons_zero, List.set_cons_succ]
     refine HeldL.take_ (v := ?vv4117111) 11 rfl rfl (by kernel_rfl) (by kernel_rfl) (fun _ _ _ h => h) (by assumption) (Or.inl ⟨by rfl, ?hy4117111⟩) ?_
     case hy4117111 => intro w hSw; (try dsimp only at hSw); (go_simp <;> with_reducible rfl)
     try simp only [Act.put, List.setIfInBounds_toArray, List.set_cons_zero, List.set_cons_succ]
     refine HeldL.take_ (v := ?vv4117114) 14 rfl rfl (by kernel_rfl) (by kernel_rfl) (fun _ _ _ h => h) (by assumption) (Or.inl ⟨by rfl, ?hy4117114⟩) ?_
     case hy4117114 => intro w hSw; (try dsimp only at hSw); (go_simp <;> with_reducible rfl)
     try simp only [Act.put, List.setIfInBounds_toArray, List.set_cons_zero, List.set_cons_succ]
     refine HeldL.take_ (v := ?vv4117115) 15 rfl rfl (by kernel_rfl) (by kernel_rfl) (fun _ _ _ h => h) (by assumption) (Or.inl ⟨by rfl, ?hy4117115⟩) ?_
     case hy4117115 => intro w hSw; (try dsimp only at hSw); (go_simp <;> with_reducible rfl)
     try simp only [Act.put, List.setIfInBounds_toArray, List.set_cons_zero, List.set_cons_succ]
     refine HeldL.take_ (v := ?vv4117116) 16 rfl rfl (by kernel_rfl) (by kernel_rfl) (fun _ _ _ h => h) (by assumption) (Or.inl ⟨by rfl, ?hy4117116⟩) ?_
     case hy4117116 => intro w hSw; (try dsimp only at hSw); (go_simp <;> with_reducible rfl)
     try simp only [Act.put, List.setIfInBounds_toArray, List.set_cons_zero, List.set_cons_succ]
     refine HeldL.step_ 7 rfl rfl (by kernel_rfl) (fun K hK => ?_)
     go_simp
     go_at_call 55
     with_reducible refine (cloneI_any A7 e7 xb.f2.f1 _ _ (Kd.F_drew (Kd.F_bound hG1.out.1.F3)) (fun k hk => Nat.lt_of_lt_of_le hk.2 (below_drew (Below.refl 0 wr)).size) hRow'.out.2.2.2.2.2.2.2.1 hle.out.2.2.1).mono ?_
     rintro e w3' ⟨B7, n7, rfl, m7, N7, _, Bx⟩
     have B3 : Below wr.heap.size wr w3' := (below_drew (Below.refl _ wr)).trans Bx
     have f1 : w3'.cell? ⟨g, i * 7 + 2 + 1, none⟩ = some (.slice A7 xb.f2.f1.length e7) ∧ w3'.cell? ⟨g, i * 7 + 2 + 2, none⟩ = some (.slice A8 xb.f2.f2.length e8) ∧ w3'.cell? ⟨g, i * 7 + 2 + 3, none⟩ = some (.slice A9 xb.f2.f3.length e9) := ⟨(B3.cell (World.block_lt_of_cell? _ _ x3)).trans x3, (B3.cell (World.block_lt_of_cell? _ _ x4)).trans x4, (B3.cell (World.block_lt_of_cell? _ _ x5)).trans x5⟩
     have H3 := Aside0.mk (And.intro m7 (And.intro (Kd.F_mono (Kd.N_F N7) (fun k hk => ok_new2 hszs.out.1 hszs.out.2 (below_drew (Below.refl 0 wr)).size hk)) B3))
     clear m7 N7 Bx B3
     go_wp2_with fail
     refine hK.out _ _ f1 (fun hHeld2 => ?_)
     clear hK K
     try simp only [Act.put, List.setIfInBounds_toArray, List.set_cons_zero, List.set_cons_succ]
     refine HeldL.step_ 12 rfl rfl (by kernel_rfl) (fun K hK => ?_)
     go_simp
     go_at_call 59
     with_reducible refine (cloneL_any A8 e8 xb.f2.f2 w3' _ (Kd.F_below (Kd.F_bound hG1.out.1.F4) H3.out.2.2) (fun k hk => Nat.lt_of_lt_of_le hk.2 H3.out.2.2.size) hRow'.out.2.2.2.2.2.2.2.2.1 hle.out.2.2.2.1).mono ?_
     rintro e w4' ⟨B8, n8, rfl, m8, N8, _, Bx⟩
     have B4 := bl1 H3.out.2.2 Bx
     have f2 : w4'.cell? ⟨g, i * 7 + 2 + 1, none⟩ = some (.slice A7 xb.f2.f1.length e7) ∧ w4'.cell? ⟨g, i * 7 + 2 + 2, none⟩ = some (.slice A8 xb.f2.f2.length e8) ∧ w4'.cell? ⟨g, i * 7 + 2 + 3, none⟩ = some (.slice A9 xb.f2.f3.length e9) := ⟨(B4.cell (World.block_lt_of_cell? _ _ x3)).trans x3, (B4.cell (World.block_lt_of_cell? _ _ x4)).trans x4, (B4.cell (World.block_lt_of_cell? _ _ x5)).trans x5⟩
     have H4 := Aside0.mk (And.intro H3.out.1 (And.intro (Kd.F_below H3.out.2.1 Bx) (And.intro m8 (And.intro (Kd.F_mono (Kd.N_F N8) (fun k hk => ok_new2 hszs.out.1 hszs.out.2 H3.out.2.2.size hk)) B4))))
     clear m8 N8 Bx B4 H3
     go_wp2_with fail
     refine hK.out _ _ f2 (fun hHeld3 => ?_)
     clear hK K
     try simp only [Act.put, List.setIfInBounds_toArray, List.set_cons_zero, List.set_cons_succ]
     refine HeldL.step_ 17 rfl rfl (by kernel_rfl) (fun K hK => ?_)
     go_simp
     go_at_call 60
     with_reducible refine (cloneE_any A9 e9 xb.f2.f3 w4' _ (Kd.F_below (Kd.F_bound hG1.out.2.1) H4.out.2.2.2.2) (fun k hk => Nat.lt_of_lt_of_le hk.2 H4.out.2.2.2.2.size) hRow'.out.2.2.2.2.2.2.2.2.2.1 hle.out.2.2.2.2).mono ?_
     rintro e w5' ⟨B9, n9, rfl, m9, N9, hfr9, Bx⟩
     have B5 := bl1 H4.out.2.2.2.2 Bx
     have f3 : w5'.cell? ⟨g, i * 7 + 2 + 1, none⟩ = some (.slice A7 xb.f2.f1.length e7) ∧ w5'.cell? ⟨g, i * 7 + 2 + 2, none⟩ = some (.slice A8 xb.f2.f2.length e8) ∧ w5'.cell? ⟨g, i * 7 + 2 + 3, none⟩ = some (.slice A9 xb.f2.f3.length e9) := ⟨(B5.cell (World.block_lt_of_cell? _ _ x3)).trans x3, (B5.cell (World.block_lt_of_cell? _ _ x4)).trans x4, (B5.cell (World.block_lt_of_cell? _ _ x5)).trans x5⟩
     have hRow5 := hG1.out.1.row.below B5
     have z3 : w5'.frozen? ⟨g, i * 7 + 2 + 1, none⟩ = false := hRow5.cells.2 3
     have z4 : w5'.frozen? ⟨g, i * 7 + 2 + 2, none⟩ = false := hRow5.cells.2 4
     have z5 : w5'.frozen? ⟨g, i * 7 + 2 + 3, none⟩ = false := hRow5.cells.2 5
     have y3 := f3.1
     have y4 := f3.2.1
     have y5 := f3.2.2
     have H5 := Aside0.mk (And.intro H4.out.1 (And.intro (Kd.F_below (Kd.F_bound H4.out.2.1) Bx) (And.intro H4.out.2.2.1 (And.intro (Kd.F_below (Kd.F_bound H4.out.2.2.2.1) Bx) (And.intro m9 (And.intro (Kd.N_mono N9 (fun k hk => ok_new2 hszs.out.1 hszs.out.2 H4.out.2.2.2.2.size hk)) (And.intro hfr9 (And.intro H4.out.2.2.2.2.size B5))))))))
     clear m9 N9 Bx B5 H4 hfr9 hRow5
     go_wp2_with fail
     refine hK.out _ _ f3 (fun hHeld4 => ?_)
     clear hK K
     try simp only [Act.put, List.setIfInBounds_toArray, List.set_cons_zero, List.set_cons_succ]
     refine HeldL.take_ (v := ?vv4569418) 18 rfl rfl (by kernel_rfl) (by kernel_rfl) (fun _ _ _ h => h) (by assumption) (Or.inl ⟨by rfl, ?hy4569418⟩) ?_
     case hy4569418 => intro w hSw; (try dsimp only at hSw); (go_simp <;> with_reducible rfl)
     try simp only [Act.put, List.setIfInBounds_toArray, List.set_cons_zero, List.set_cons_succ]
     refine HeldL.take_ (v := ?vv4569419) 19 rfl rfl (by kernel_rfl) (by kernel_rfl) (fun _ _ _ h => h) (by assumption) (Or.inl ⟨by rfl, ?hy4569419⟩) ?_
     case hy4569419 => intro w hSw; (try dsimp only at hSw); (go_simp <;> with_reducible rfl)
     try simp only [Act.put, List.setIfInBounds_toArray, List.set_cons_zero, List.set_cons_succ]
     refine HeldL.rest_ (by kernel_rfl) ?_
     simp only [List.drop_succ_cons, List.drop_zero]
     clear f1 f2 f3 hHeld hHeld2 hHeld3 hHeld4
     go_upto_region 14 with (fail)
     obtain ⟨w6', hw6'⟩ : ∃ w6', ((w5'.setCell ⟨g, i * 7 + 2 + 1, none⟩ (.slice B7 xb.f2.f1.length n7)).setCell ⟨g, i * 7 + 2 + 2, none⟩ (.slice B8 xb.f2.f2.length n8)).setCell ⟨g, i * 7 + 2 + 3, none⟩ (.slice B9 xb.f2.f3.length n9) = w6' := ⟨_, rfl⟩
     have h6' : Aside0 (IB w x b1 A1 d1 A2 d2 g x.f6.length d3 i [.slice B0 xb.f0.length n0, .slice B1 xb.f1.length n1, .int .i64 xb.f2.f0, .slice B7 xb.f2.f1.length n7, .slice B8 xb.f2.f2.length n8, .slice B9 xb.f2.f3.length n9, .int .i64 xb.f2.f4] xb B0 B7 B8 (fun k => (UK okp b1 k ∧ k ≠ g) ∧ k < w4'.heap.size) w6' ∧ Kd.F k48 w6' (fun k => (UK okp b1 k ∧ k ≠ g) ∧ k < w4'.heap.size) B1 xb.f1.length xb.f1 ∧ Kd.N k98 98 w6' 0 (fun k => UK okp b1 k ∧ k ≠ g) (.slice B9 xb.f2.f3.length n9) xb.f2.f3) := by
      have hg1 := hRow'.out.2.2.1
      have hg2 := hRow'.out.2.2.2.1
      have h34 : wr.heap.size ≤ w4'.heap.size := H5.out.2.2.2.2.2.2.2.1
      have bd : ∀ k, ((UK okp b1 k ∧ k ≠ g) ∧ k < wr.heap.size) → (UK okp b1 k ∧ k ≠ g) ∧ k < w4'.heap.size := fun k hk => ⟨hk.1, Nat.lt_of_lt_of_le hk.2 h34⟩
      have hkg : ∀ k, ((UK okp b1 k ∧ k ≠ g) ∧ k < w4'.heap.size) → k ≠ g := fun k hk => hk.1.2
      have B5 := H5.out.2.2.2.2.2.2.2.2
      have r5 := ((hG1.out.1.row.bound.below B5).mono bd)
      have ou5 := ((hG1.out.1.ou.bound.below B5).mono bd)
      have f0 := Kd.F_mono (Kd.F_below (Kd.F_bound hG1.out.1.F0) B5) bd
      have f1 := Kd.F_mono (Kd.F_below (Kd.F_bound hG1.out.2.2) B5) bd
      rw [← hw6']
      refine ⟨⟨((ou5.at_row hg1 hg2 hkg _ _).at_row hg1 hg2 hkg _ _).at_row hg1 hg2 hkg _ _, ?_, ?_, ?_, ?_⟩, ?_, ?_⟩
      ·exact ((r5.put hkg (j := 3) (by decide) (by simp [Value.oneCell'])).put hkg (j := 4) (by decide) (by simp [Value.oneCell'])).put hkg (j := 5) (by decide) (by simp [Value.oneCell'])
      ·exact Kd.F_far (Kd.F_far (Kd.F_far f0 (p := ⟨g, i * 7 + 2 + 1, none⟩) hkg _) (p := ⟨g, i * 7 + 2 + 2, none⟩) hkg _) (p := ⟨g, i * 7 + 2 + 3, none⟩) hkg _
      ·exact Kd.F_far (Kd.F_far (Kd.F_far H5.out.2.1 (p := ⟨g, i * 7 + 2 + 1, none⟩) hkg _) (p := ⟨g, i * 7 + 2 + 2, none⟩) hkg _) (p := ⟨g, i * 7 + 2 + 3, none⟩) hkg _
      ·exact Kd.F_far (Kd.F_far (Kd.F_far H5.out.2.2.2.1 (p := ⟨g, i * 7 + 2 + 1, none⟩) hkg _) (p := ⟨g, i * 7 + 2 + 2, none⟩) hkg _) (p := ⟨g, i * 7 + 2 + 3, none⟩) hkg _
      ·exact Kd.F_far (Kd.F_far (Kd.F_far f1 (p := ⟨g, i * 7 + 2 + 1, none⟩) hkg _) (p := ⟨g, i * 7 + 2 + 2, none⟩) hkg _) (p := ⟨g, i * 7 + 2 + 3, none⟩) hkg _
      ·exact Kd.N_far (Kd.N_far (Kd.N_far H5.out.2.2.2.2.2.1 (p := ⟨g, i * 7 + 2 + 1, none⟩) (fun k hk => hk.2) _) (p := ⟨g, i * 7 + 2 + 2, none⟩) (fun k hk => hk.2) _) (p := ⟨g, i * 7 + 2 + 3, none⟩) (fun k hk => hk.2) _
     have h6b := Aside0.mk (And.intro (And.intro hle.out.1 (And.intro hle.out.2.1 (And.intro H5.out.1 (And.intro H5.out.2.2.1 H5.out.2.2.2.2.1)))) (And.intro H5.out.2.2.2.2.2.2.1 (And.intro (Nat.lt_of_lt_of_le hszs.out.1 H5.out.2.2.2.2.2.2.2.1) (Nat.lt_of_lt_of_le hszs.out.2 H5.out.2.2.2.2.2.2.2.1))))
     have hbnE : xb.f2.f3.length ≤ 140737488355328 := by have := hRow'.out.2.2.2.2.2.2.2.2.2.1; omega
     rw [hw6']
     clear hw6' H5 x3 x4 x5 y3 y4 y5 z3 z4 z5 hG1 hle hszs
     have y1 : w6'.cell? ⟨g, i * 7 + 2 + 3, none⟩ = some (.slice B9 xb.f2.f3.length n9) := h6'.out.1.row.cells.1 5 _ rfl
     go_wp2_with fail
     clear y1
     go_loopg [103] xb.f2.f3.length (fun q v wi => ∃ k : Nat, k + q = xb.f2.f3.length ∧ v = .int .i64 (k : Int) ∧ Aside0 (IB w x b1 A1 d1 A2 d2 g x.f6.length d3 i [.slice B0 xb.f0.length n0, .slice B1 xb.f1.length n1, .int .i64 xb.f2.f0, .slice B7 xb.f2.f1.length n7, .slice B8 xb.f2.f2.length n8, .slice B9 xb.f2.f3.length n9, .int .i64 xb.f2.f4] xb B0 B7 B8 (fun k => (UK okp b1 k ∧ k ≠ g) ∧ k < w4'.heap.size) wi ∧ Kd.F k48 wi (fun k => (UK okp b1 k ∧ k ≠ g) ∧ k < w4'.heap.size) B1 xb.f1.length xb.f1 ∧ Kd.N k98 98 wi 0 (fun k => UK okp b1 k ∧ k ≠ g) (.slice B9 xb.f2.f3.length n9) xb.f2.f3))
     case atStart => exact ⟨0, by omega, rfl, h6'⟩
     case round =>
      obtain ⟨k, hk, rfl, hG⟩ := hrel
      clear h6'
      by_cases hlk : k < xb.f2.f3.length
      ·have hlki : (k : Int) < xb.f2.f3.length := by omega
       have hk0 : (0 : Int) ≤ (k : Int) := by omega
       obtain ⟨gk2, rfl⟩ : ∃ q, gk = q + 1 := ⟨gk - 1, by omega⟩
       have hk1 : k + 1 + gk2 = xb.f2.f3.length := by omega
       have hgk2 : gk2 < gk2 + 1 := by omega
       obtain ⟨gI, cq, eA, _, hgI, _⟩ := Kd.N_form hG.out.2.2 (by omega)
       injection eA with eA _ ec
       subst eA
       obtain ⟨ce, hEl, hFE⟩ := RowAt.of_N hG.out.2.2 hlk
       have hae := hRow'.out.2.2.2.2.2.2.2.2.2.2 xb.f2.f3[k] (List.getElem_mem hlk)
       have hxk : xb.f2.f3[k]? = some xb.f2.f3[k] := List.getElem?_eq_getElem hlk
       obtain ⟨xe, hxe⟩ : ∃ xe, xb.f2.f3[k] = xe := ⟨_, rfl⟩
       rw [hxe] at hFE hae hxk
       obtain ⟨Aa, ea, rfl, la, Fa⟩ := k98_openF hFE
       have v1 : wr.cell? ⟨g, i * 7 + 2 + 3, none⟩ = some (.slice (some ⟨gI, 0, none⟩) xb.f2.f3.length n9) := hG.out.1.row.cells.1 5 _ rfl
       have v2 : wr.cell? ⟨gI, k * 2 + 1, none⟩ = some (.slice Aa xe.f1.length ea) := hEl.cells.1 1 _ rfl
       have hEs := Aside0.mk (And.intro hEl (And.intro hxk (And.intro hae (And.intro la (And.intro Fa hgI)))))
       clear hEl hxk hae la Fa hxe hFE ec
       go_upto_region 17 with (fail)
       refine Held.begin_ (S := fun w' => w'.cell? ⟨g, i * 7 + 2 + 3, none⟩ = some (.slice (some ⟨gI, 0, none⟩) xb.f2.f3.length n9) ∧ w'.cell? ⟨gI, k * 2 + 1, none⟩ = some (.slice Aa xe.f1.length ea)) 16 (by kernel_rfl) (by kernel_rfl) ?_ (fun hHeld => ?_)
       ·exact ⟨v1, v2⟩
       simp only [List.length_cons, List.length_nil, Nat.reduceAdd, List.replicate, Array.replicate]
       refine Held.take_ (v := ?vv4664700) 0 rfl rfl (by kernel_rfl) (by kernel_rfl) (fun _ _ _ h => h) (by assumption) (Or.inl ⟨by rfl, ?hy4664700⟩) ?_
       case hy4664700 => intro w hSw; (try dsimp only at hSw); (go_simp <;> with_reducible rfl)
       try simp only [Act.put, List.setIfInBounds_toArray, List.set_cons_zero, List.set_cons_succ]
       refine Held.take_ (v := ?vv4664701) 1 rfl rfl (by kernel_rfl) (by kernel_rfl) (fun _ _ _ h => h) (by assumption) (Or.inl ⟨by rfl, ?hy4664701⟩) ?_
       case hy4664701 => intro w hSw; (try dsimp only at hSw); (go_simp <;> with_reducible rfl)
       try simp only [Act.put, List.setIfInBounds_toArray, List.set_cons_zero, List.set_cons_succ]
       refine Held.take_ (v := ?vv4664702) 2 rfl rfl (by kernel_rfl) (by kernel_rfl) (fun _ _ _ h => h) (by assumption) (Or.inl ⟨by rfl, ?hy4664702⟩) ?_
       case hy4664702 => intro w hSw; (try dsimp only at hSw); (go_simp <;> with_reducible rfl)
       try simp only [Act.put, List.setIfInBounds_toArray, List.set_cons_zero, List.set_cons_succ]
       refine Held.take_ (v := ?vv4664703) 3 rfl rfl (by kernel_rfl) (by kernel_rfl) (fun _ _ _ h => h) (by assumption) (Or.inl ⟨by rfl, ?hy4664703⟩) ?_
       case hy4664703 => intro w hSw; (try dsimp only at hSw); (go_simp <;> with_reducible rfl)
       try simp only [Act.put, List.setIfInBounds_toArray, List.set_cons_zero, List.set_cons_succ]
       refine Held.take_ (v := ?vv4664704) 4 rfl rfl (by kernel_rfl) (by kernel_rfl) (fun _ _ _ h => h) (by assumption) (Or.inl ⟨by rfl, ?hy4664704⟩) ?_
       case hy4664704 => intro w hSw; (try dsimp only at hSw); (go_simp <;> with_reducible rfl)
       try simp only [Act.put, List.setIfInBounds_toArray, List.set_cons_zero, List.set_cons_succ]
       refine Held.take_ (v := ?vv4664705) 5 rfl rfl (by kernel_rfl) (by kernel_rfl) (fun _ _ _ h => h) (by assumption) (Or.inl ⟨by rfl, ?hy4664705⟩) ?_
       case hy4664705 => intro w hSw; (try dsimp only at hSw); (go_simp <;> with_reducible rfl)
       try simp only [Act.put, List.setIfInBounds_toArray, List.set_cons_zero, List.set_cons_succ]
       refine Held.take_ (v := ?vv4664706) 6 rfl rfl (by kernel_rfl) (by kernel_rfl) (fun _ _ _ h => h) (by assumption) (Or.inl ⟨by rfl, ?hy4664706⟩) ?_
       case hy4664706 => intro w hSw; (try dsimp only at hSw); (go_simp <;> with_reducible rfl)
       try simp only [Act.put, List.setIfInBounds_toArray, List.set_cons_zero, List.set_cons_succ]
       refine Held.take_ (v := ?vv4664707) 7 rfl rfl (by kernel_rfl) (by kernel_rfl) (fun _ _ _ h => h) (by assumption) (Or.inl ⟨by rfl, ?hy4664707⟩) ?_
       case hy4664707 => intro w hSw; (try dsimp only at hSw); (go_simp <;> with_reducible rfl)
       try simp only [Act.put, List.setIfInBounds_toArray, List.set_cons_zero, List.set_cons_succ]
       refine Held.take_ (v := ?vv4664708) 8 rfl rfl (by kernel_rfl) (by kernel_rfl) (fun _ _ _ h => h) (by assumption) (Or.inl ⟨by rfl, ?hy4664708⟩) ?_
       case hy4664708 => intro w hSw; (try dsimp only at hSw); (go_simp <;> with_reducible rfl)
       try simp only [Act.put, List.setIfInBounds_toArray, List.set_cons_zero, List.set_cons_succ]
       refine Held.take_ (v := ?vv4664709) 9 rfl rfl (by kernel_rfl) (by kernel_rfl) (fun _ _ _ h => h) (by assumption) (Or.inl ⟨by rfl, ?hy4664709⟩) ?_
       case hy4664709 => intro w hSw; (try dsimp only at hSw); (go_simp <;> with_reducible rfl)
       try simp only [Act.put, List.setIfInBounds_toArray, List.set_cons_zero, List.set_cons_succ]
       refine Held.take_ (v := ?vv4664710) 10 rfl rfl (by kernel_rfl) (by kernel_rfl) (fun _ _ _ h => h) (by assumption) (Or.inl ⟨by rfl, ?hy4664710⟩) ?_
       case hy4664710 => intro w hSw; (try dsimp only at hSw); (go_simp <;> with_reducible rfl)
       try simp only [Act.put, List.setIfInBounds_toArray, List.set_cons_zero, List.set_cons_succ]
       refine Held.take_ (v := ?vv4664711) 11 rfl rfl (by kernel_rfl) (by kernel_rfl) (fun _ _ _ h => h) (by assumption) (Or.inl ⟨by rfl, ?hy4664711⟩) ?_
       case hy4664711 => intro w hSw; (try dsimp only at hSw); (go_simp <;> with_reducible rfl)
       try simp only [Act.put, List.setIfInBounds_toArray, List.set_cons_zero, List.set_cons_succ]
       refine Held.take_ (v := ?vv4664712) 12 rfl rfl (by kernel_rfl) (by kernel_rfl) (fun _ _ _ h => h) (by assumption) (Or.inl ⟨by rfl, ?hy4664712⟩) ?_
       case hy4664712 => intro w hSw; (try dsimp only at hSw); (go_simp <;> with_reducible rfl)
       try simp only [Act.put, List.setIfInBounds_toArray, List.set_cons_zero, List.set_cons_succ]
       refine Held.step_ 13 rfl rfl (by kernel_rfl) (fun K hK => ?_)
       go_simp
       go_at_call 55
       with_reducible refine (cloneI_any Aa ea xe.f1 _ _ (Kd.F_drew (Kd.F_bound hEs.out.2.2.2.2.1)) (fun k hk => Nat.lt_of_lt_of_le hk.2 (below_drew (Below.refl 0 wr)).size) hEs.out.2.2.1 hEs.out.2.2.2.1).mono ?_
       rintro e w7 ⟨Ab, nb, rfl, mb, Nb, _, Bx⟩
       have B6 : Below wr.heap.size wr w7 := (below_drew (Below.refl _ wr)).trans Bx
       have f1 : w7.cell? ⟨g, i * 7 + 2 + 3, none⟩ = some (.slice (some ⟨gI, 0, none⟩) xb.f2.f3.length n9) ∧ w7.cell? ⟨gI, k * 2 + 1, none⟩ = some (.slice Aa xe.f1.length ea) := ⟨(B6.cell (World.block_lt_of_cell? _ _ v1)).trans v1, (B6.cell (World.block_lt_of_cell? _ _ v2)).trans v2⟩
       have v2' := f1.2
       have hEl6 := hEs.out.1.below B6
       have z2 : w7.frozen? ⟨gI, k * 2 + 1, none⟩ = false := hEl6.cells.2 1
       have H6 := Aside0.mk (And.intro mb (And.intro (Kd.F_mono (Kd.N_F Nb) (fun k hk => ok_new3 (Nat.lt_of_lt_of_le h6b.out.2.2.1 (Nat.le_of_lt (Nat.lt_of_le_of_lt (h6b.out.2.1 gI rfl) hEs.out.2.2.2.2.2))) (Nat.lt_of_lt_of_le h6b.out.2.2.2 (Nat.le_of_lt (Nat.lt_of_le_of_lt (h6b.out.2.1 gI rfl) hEs.out.2.2.2.2.2))) hEs.out.2.2.2.2.2 (below_drew (Below.refl 0 wr)).size hk)) (And.intro B6 hEl6)))
       clear mb Nb Bx B6 hEl6
       go_wp2_with fail
       refine hK.out _ _ f1 (fun hHeld2 => ?_)
       clear hK K
       try simp only [Act.put, List.setIfInBounds_toArray, List.set_cons_zero, List.set_cons_succ]
       refine Held.take_ (v := ?vv4832714) 14 rfl rfl (by kernel_rfl) (by kernel_rfl) (fun _ _ _ h => h) (by assumption) (Or.inl ⟨by rfl, ?hy4832714⟩) ?_
       case hy4832714 => intro w hSw; (try dsimp only at hSw); (go_simp <;> with_reducible rfl)
       try simp only [Act.put, List.setIfInBounds_toArray, List.set_cons_zero, List.set_cons_succ]
       refine Held.take_ (v := ?vv4832715) 15 rfl rfl (by kernel_rfl) (by kernel_rfl) (fun _ _ _ h => h) (by assumption) (Or.inl ⟨by rfl, ?hy4832715⟩) ?_
       case hy4832715 => intro w hSw; (try dsimp only at hSw); (go_simp <;> with_reducible rfl)
       try simp only [Act.put, List.setIfInBounds_toArray, List.set_cons_zero, List.set_cons_succ]
       refine Held.rest_ (by kernel_rfl) ?_
       simp only [List.drop_succ_cons, List.drop_zero]
       clear f1 hHeld hHeld2
       go_upto_region 18 with (fail)
       obtain ⟨w8, hw8⟩ : ∃ w8, w7.setCell ⟨gI, k * 2 + 1, none⟩ (.slice Ab xe.f1.length nb) = w8 := ⟨_, rfl⟩
       have hI7 : Aside0 (IB w x b1 A1 d1 A2 d2 g x.f6.length d3 i [.slice B0 xb.f0.length n0, .slice B1 xb.f1.length n1, .int .i64 xb.f2.f0, .slice B7 xb.f2.f1.length n7, .slice B8 xb.f2.f2.length n8, .slice (some ⟨gI, 0, none⟩) xb.f2.f3.length n9, .int .i64 xb.f2.f4] xb B0 B7 B8 (fun k => (UK okp b1 k ∧ k ≠ g) ∧ k < w4'.heap.size) w8 ∧ Kd.F k48 w8 (fun k => (UK okp b1 k ∧ k ≠ g) ∧ k < w4'.heap.size) B1 xb.f1.length xb.f1 ∧ Kd.N k98 98 w8 0 (fun k => UK okp b1 k ∧ k ≠ g) (.slice (some ⟨gI, 0, none⟩) xb.f2.f3.length n9) xb.f2.f3) := by
        have hI3 := h6b.out.2.1 gI rfl
        have hb13 := h6b.out.2.2.1
        have hg3 := h6b.out.2.2.2
        have hg1 := hRow'.out.2.2.1
        have hkI : ∀ k, ((UK okp b1 k ∧ k ≠ g) ∧ k < w4'.heap.size) → k ≠ gI := fun k hk => by have := hk.2; omega
        rw [← hw8]
        refine ⟨(hG.out.1.below H6.out.2.2.1).far (p := ⟨gI, k * 2 + 1, none⟩) (by show w.heap.size ≤ gI; omega) (by show b1 ≠ gI; omega) (by show b1 + 1 ≠ gI; omega) (by show g ≠ gI; omega) hkI _, Kd.F_far (Kd.F_below hG.out.2.1 H6.out.2.2.1) (p := ⟨gI, k * 2 + 1, none⟩) hkI _, ?_⟩
        have hput := H6.out.2.2.2.put (fun k hk => hk.2) (j := 1) (by decide) (u := .slice Ab xe.f1.length nb) (by simp [Value.oneCell'])
        refine Kd.N_mono (hput.to_N hEs.out.2.1 ?_ (fun k hk => hk.2)) (fun k hk => ?_)
        ·exact k98_mkF _ _ xe H6.out.1 (Kd.F_far H6.out.2.1 (p := ⟨gI, k * 2 + 1, none⟩) (fun k hk => hk.2) _)
        ·rcases hk with hk | hk
         ·exact hk.1
         ·subst hk; exact ⟨.inr (by omega), by omega⟩
       rw [hw8]
       clear hw8 H6 hEs hG v1 v2 v2' z2
       go_wp2_with fail
       go_roundg gk2
       case rel => exact ⟨k + 1, hk1, by go_num, hI7⟩
       case measure => exact hgk2
      ·have hI9 : Aside0 (OU w x b1 (b1 + 1) A1 d1 A2 d2 (.slice (some ⟨g, 0, none⟩) x.f6.length d3) (fun k => UK okp b1 k ∧ some k ≠ (Value.slice (some ⟨g, 0, none⟩) x.f6.length d3).ownBlock) wr ∧ Kd.N k31 31 wr 0 (fun k => UK okp b1 k) (.slice (some ⟨g, 0, none⟩) x.f6.length d3) x.f6 ∧ (∀ g', some (⟨g, 0, none⟩ : Addr) = some ⟨g', 0, none⟩ → w.heap.size < g' ∧ b1 + 1 < g')) := by
        have hg1 := hRow'.out.2.2.1
        have hg2 := hRow'.out.2.2.2.1
        refine ⟨hG.out.1.ou.mono (fun k hk => ⟨hk.1.1, fun e => hk.1.2 (by simpa [Value.ownBlock] using e)⟩), ?_, fun g' e => by injection e with e; injection e with e; omega⟩
        refine Kd.N_mono ((hG.out.1.row.mono (fun k hk => hk.1)).to_N hRow'.out.2.1 (k31_mkF _ (fun k => UK okp b1 k ∧ k ≠ g) xb h6b.out.1.1 (Kd.F_mono hG.out.1.F0 (fun k hk => hk.1)) h6b.out.1.2.1 (Kd.F_mono hG.out.2.1 (fun k hk => hk.1)) h6b.out.1.2.2.1 (Kd.F_mono hG.out.1.F3 (fun k hk => hk.1)) h6b.out.1.2.2.2.1 (Kd.F_mono hG.out.1.F4 (fun k hk => hk.1)) h6b.out.1.2.2.2.2 (Kd.N_F hG.out.2.2)) (fun k hk => hk.2)) (fun k hk => ?_)
        rcases hk with hk | hk
        ·exact hk.1
        ·subst hk; exact .inr (by omega)
       clear hG h6b hRow'
       go_wp2_with fail
       go_roundg gk1
       case rel => exact ⟨i + 1, hi1, by go_num, hI9⟩
       case measure => exact hgk1
  ·have hbx := hJ.out.1.box
   obtain ⟨cs2, hr2, hs2⟩ := hJ.out.1.res
   have hF := Aside0.mk (And.intro hJ.out (And.intro hr2 hs2))
   have u0 : wr.cell? ⟨b1, 0, none⟩ = some (.string x.f0) := cell_at hbx rfl
   have u1 : wr.cell? ⟨b1, 1, none⟩ = some (.slice A1 x.f1.length d1) := cell_at hbx rfl
   have u2 : wr.cell? ⟨b1, 2, none⟩ = some (.int .i64 x.f2) := cell_at hbx rfl
   have u3 : wr.cell? ⟨b1, 3, none⟩ = some (.slice A2 x.f3.length d2) := cell_at hbx rfl
   have u4 : wr.cell? ⟨b1, 4, none⟩ = some (.int .i64 x.f4) := cell_at hbx rfl
   have u5 : wr.cell? ⟨b1, 5, none⟩ = some (.int .i64 x.f5) := cell_at hbx rfl
   have u6 : wr.cell? ⟨b1, 6, none⟩ = some (.slice A3 x.f6.length d3) := cell_at hbx rfl
   obtain ⟨y0, y1, y2, y3, y4, y5, y6, rfl⟩ := arr7 hs2
   have v0 : wr.cell? ⟨b1 + 1, 0, none⟩ = some y0 := cell_at hr2 rfl
   have v1 : wr.cell? ⟨b1 + 1, 1, none⟩ = some y1 := cell_at hr2 rfl
   have v2 : wr.cell? ⟨b1 + 1, 2, none⟩ = some y2 := cell_at hr2 rfl
   have v3 : wr.cell? ⟨b1 + 1, 3, none⟩ = some y3 := cell_at hr2 rfl
   have v4 : wr.cell? ⟨b1 + 1, 4, none⟩ = some y4 := cell_at hr2 rfl
   have v5 : wr.cell? ⟨b1 + 1, 5, none⟩ = some y5 := cell_at hr2 rfl
   have v6 : wr.cell? ⟨b1 + 1, 6, none⟩ = some y6 := cell_at hr2 rfl
   have hfz := free_at hr2
   have z0 := hfz 0
   have z1 := hfz 1
   have z2 := hfz 2
   have z3 := hfz 3
   have z4 := hfz 4
   have z5 := hfz 5
   have z6 := hfz 6
   clear hbx hr2 hs2 hfz hJ
   go_wp2
   clear u0 u1 u2 u3 u4 u5 u6 v0 v1 v2 v3 v4 v5 v6 z0 z1 z2 z3 z4 z5 z6
   obtain ⟨w9, hw9⟩ : ∃ w9, ((((((wr.setCell ⟨b1 + 1, 0, none⟩ (.string x.f0)).setCell ⟨b1 + 1, 1, none⟩ (.slice A1 x.f1.length d1)).setCell ⟨b1 + 1, 2, none⟩ (.int .i64 x.f2)).setCell ⟨b1 + 1, 3, none⟩ (.slice A2 x.f3.length d2)).setCell ⟨b1 + 1, 4, none⟩ (.int .i64 x.f4)).setCell ⟨b1 + 1, 5, none⟩ (.int .i64 x.f5)).setCell ⟨b1 + 1, 6, none⟩ (.slice A3 x.f6.length d3) = w9 := ⟨_, rfl⟩
   have hblk : w9.heap[b1 + 1]? = some (.cells #[.string x.f0, .slice A1 x.f1.length d1, .int .i64 x.f2, .slice A2 x.f3.length d2, .int .i64 x.f4, .int .i64 x.f5, .slice A3 x.f6.length d3] 55 (0, 0)) := by
    rw [← hw9]
    exact set_at (set_at (set_at (set_at (set_at (set_at (set_at hF.out.2.1 _) _) _) _) _) _) _
   have kp : Kp (fun k => k = b1 + 1) wr w9 := by
    rw [← hw9]
    exact (((((((Kp.refl (fun k => k = b1 + 1) wr).setCell (p := ⟨b1 + 1, 0, none⟩) (.inl rfl) _).setCell (p := ⟨b1 + 1, 1, none⟩) (.inl rfl) _).setCell (p := ⟨b1 + 1, 2, none⟩) (.inl rfl) _).setCell (p := ⟨b1 + 1, 3, none⟩) (.inl rfl) _).setCell (p := ⟨b1 + 1, 4, none⟩) (.inl rfl) _).setCell (p := ⟨b1 + 1, 5, none⟩) (.inl rfl) _).setCell (p := ⟨b1 + 1, 6, none⟩) (.inl rfl) _
   rw [hw9]
   clear hw9
   refine bodyPost_ret (results_cell_row rfl _ _ (b1 + 1) 55 #[.string x.f0, .slice A1 x.f1.length d1, .int .i64 x.f2, .slice A2 x.f3.length d2, .int .i64 x.f4, .int .i64 x.f5, .slice A3 x.f6.length d3] (0, 0) _ rfl hblk Tryd.underlying55 rfl (by kernel_rfl)) rfl ?_
   have ou := hF.out.1.1
   have hokb : ∀ k, okp k → k < b1 := fun k hk => by have := hok k hk; have := hb1w.out; omega
   have hm : ∀ k, k ≠ b1 + 1 → k < wr.heap.size → w9.heap[k]? = wr.heap[k]? := fun k hk hlt => kp.block hlt hk
   refine ⟨A1, d1, A2, d2, A3, d3, rfl, ou.hP, ou.hR, Kd.F_mono (Kd.F_step ou.P (fun k hk hlt => hm k (hk.1.ne hokb).2 hlt)) (fun k hk => ⟨hk.1.imp id (fun h => by have := hb1w.out; omega), hk.2⟩), Kd.F_mono (Kd.F_step ou.R (fun k hk hlt => hm k (hk.1.ne hokb).2 hlt)) (fun k hk => ⟨hk.1.imp id (fun h => by have := hb1w.out; omega), hk.2⟩), Kd.N_mono (Kd.N_step hF.out.1.2.1 (fun k hk hlt => hm k (hk.ne hokb).2 hlt)) (fun k hk => hk.imp id (fun h => by have := hb1w.out; omega)), fun g hg => Nat.le_of_lt (hF.out.1.2.2 g hg).1, ?_⟩
   exact ((Kp.of_below ou.b (fun k => w.heap.size ≤ k)).then_ kp (fun k hk => .inr (by have := hb1w.out; omega))).belowB (fun k hk => hk) (Nat.le_refl _)
end Go.Proofs.YtjacphcbiaacnaaDoor
end

section
set_option linter.unusedVariables false
set_option linter.unusedSimpArgs false
set_option linter.unusedSectionVars false
namespace Go.Proofs.YtjacphcbiaacnaaDoor
open Go.RowKit Go.Proofs.YtjacphcbiaacnaaDoorW.PrintWords Go.Proofs.YtjacphcbiaacnaaDoorW.PrintMore Go.Proofs.YtjacphcbiaacnaaDoorW.PrintLast Go.Proofs.YtjacphcbiaacnaaDoor.PDigraphTells Mem Sc
theorem eqi_loop (l m : List Int) (h : l.length = m.length) (hn : l.length ≤ 140737488355328) : ∀ (d i k : Nat), i + d = l.length → d < k → slices_Equal_int_int.l0 k l m (l.length : Int) (i : Int) = some (decide (l.drop i = m.drop i)) := by
 intro d
 induction d with
 | zero =>
  intro i k hi hk
  obtain ⟨k, rfl⟩ : ∃ m, k = m + 1 := ⟨k - 1, by omega⟩
  simp only [slices_Equal_int_int.l0]
  rw [if_neg (by omega), List.drop_of_length_le (by omega), List.drop_of_length_le (by omega)]
  simp
 | succ d ih =>
  intro i k hi hk
  obtain ⟨k, rfl⟩ : ∃ m, k = m + 1 := ⟨k - 1, by omega⟩
  have hlt : i < l.length := by omega
  have hlt2 : i < m.length := by omega
  have hr : rd l (i : Int) = l[i] := by simp [rd, hlt]
  have hr2 : rd m (i : Int) = m[i] := by simp [rd, hlt2]
  simp only [slices_Equal_int_int.l0]
  rw [if_pos (by omega), if_pos (by omega), if_pos (by omega), if_pos (by omega), hr, hr2, List.drop_eq_getElem_cons hlt, List.drop_eq_getElem_cons hlt2]
  by_cases e : l[i] = m[i]
  ·rw [if_pos e]
   have e1 : wrap64 ((i : Int) + 1) = ((i + 1 : Nat) : Int) := by unfold wrap64; omega
   rw [e1, ih (i + 1) k (by omega) (by omega)]
   simp only [List.cons.injEq, e, true_and]
  ·rw [if_neg e, decide_eq_false (fun h => e (List.cons.inj h).1)]
theorem eqi_f (l m : List Int) (hn : l.length ≤ 140737488355328) : slices_Equal_int_int.f (l.length + 1) l m = some (decide (l = m)) := by
 unfold slices_Equal_int_int.f
 by_cases h : (l.length : Int) = (m.length : Int)
 ·rw [if_pos h, show (0 : Int) = ((0 : Nat) : Int) from rfl, eqi_loop l m (by omega) hn l.length 0 _ (by omega) (by omega)]
  simp
 ·rw [if_neg h, decide_eq_false (fun e => h (by rw [e]))]
section
variable {w w' : World} {W R : Int} {AL : Option Addr} {cL : Nat} {Lat : List Int} {AP : Option Addr} {cP : Nat} {P : List Int} {AI : Option Addr} {cI : Nat} {B : List S48} {A3 : Option Addr} {c3 : Nat} {t1 : List Int} {A4 : Option Addr} {c4 : Nat} {t2 : List Int} {A5 : Option Addr} {c5 : Nat} {t3 : List S98} {t0 t4 : Int}
end
end Go.Proofs.YtjacphcbiaacnaaDoor
end

section
set_option linter.unusedVariables false
set_option linter.unusedSimpArgs false
set_option linter.unusedSectionVars false
namespace Go.Proofs.YtjacphcbiaacnaaDoor
open Go.RowKit Go.Proofs.YtjacphcbiaacnaaDoorW.PrintWords Go.Proofs.YtjacphcbiaacnaaDoorW.PrintMore Go.Proofs.YtjacphcbiaacnaaDoorW.PrintLast Go.Proofs.YtjacphcbiaacnaaDoor.PDigraphTells Mem Sc
theorem at_row {w : World} {A : Option Addr} {xs : List (List Int)} (h : Kd.C (Kd.slice 3 (Kd.int .i64)) w A xs.length xs) (k : Nat) (hk : k < xs.length) : ∃ ad B c, A = some ad ∧ w.cell? (ad.add k) = some (.slice B xs[k].length c) ∧ xs[k].length ≤ c ∧ (Kd.int .i64).C w B xs[k].length xs[k] := by
 obtain ⟨ad, B, c, e, h⟩ := at_L1 h (k : Int) (by omega) (by omega)
 rw [rd1_get xs k hk, Int.toNat_natCast] at h
 exact ⟨ad, B, c, e, h⟩
section
variable {w w' : World} {W R : Int} {AL : Option Addr} {cL : Nat} {Lat : List Int} {AP : Option Addr} {cP : Nat} {P : List Int} {AI : Option Addr} {cI : Nat} {B : List S48} {A3 : Option Addr} {c3 : Nat} {t1 : List Int} {A4 : Option Addr} {c4 : Nat} {t2 : List Int} {A5 : Option Addr} {c5 : Nat} {t3 : List S98} {t0 t4 : Int}
end
end Go.Proofs.YtjacphcbiaacnaaDoor
end

section
set_option linter.unusedVariables false
set_option linter.unusedSimpArgs false
set_option linter.unusedSectionVars false
namespace Go.Proofs.YtjacphcbiaacnaaDoor
open Go.RowKit Go.Proofs.YtjacphcbiaacnaaDoorW.PrintWords Go.Proofs.YtjacphcbiaacnaaDoor.PDigraphTells Sc
end Go.Proofs.YtjacphcbiaacnaaDoor
end

section
set_option linter.unusedVariables false
set_option linter.unusedSimpArgs false
set_option linter.unusedSectionVars false
namespace Go.Proofs.YtjacphcbiaacnaaDoor
open Go.RowKit Go.Proofs.YtjacphcbiaacnaaDoorW.PrintWords Go.Proofs.YtjacphcbiaacnaaDoorW.PrintMore Go.Proofs.YtjacphcbiaacnaaDoorW.PrintLast Go.Proofs.YtjacphcbiaacnaaDoor.PDigraphTells Mem Sc
structure AtO (n : Nat) (w6 wi : World) (Ag : Option Addr) (cap : Nat) (o : List Int) : Prop where
 b : Below w6.heap.size w6 wi
 R : Kd.R (Kd.int .i64) 3 wi 0 (fun k => w6.heap.size ≤ k) (.slice Ag n cap) o
 len : o.length = n
section
variable {n : Nat} {w6 wi wj : World} {Ag : Option Addr} {g cap : Nat} {o : List Int}
theorem AtO.step (h : AtO n w6 wi Ag cap o) (hb : Below wi.heap.size wi wj) : AtO n w6 wj Ag cap o := ⟨h.b.trans (hb.mono h.b.size), Kd.R_step h.R (fun k _ hlt => hb.block k hlt), h.len⟩
theorem AtO.form (h : AtO n w6 wi Ag cap o) (hn : 0 < n) : ∃ g, Ag = some ⟨g, 0, none⟩ := by
 obtain ⟨g, c, e, _⟩ := Kd.R_form h.R (by rw [h.len]; exact hn)
 injection e with e1 e2 e3
 exact ⟨g, e1⟩
theorem AtO.put (h : AtO n w6 wi (some ⟨g, 0, none⟩) cap o) (p : Nat) (v : Int) : AtO n w6 (wi.setCell ⟨g, p, none⟩ (.int .i64 v)) (some ⟨g, 0, none⟩) cap (o.set p v) := by
 have hk : Kp (fun k => w6.heap.size ≤ k) wi (wi.setCell ⟨g, p, none⟩ (.int .i64 v)) := (Kp.refl _ wi).setCell (p := ⟨g, p, none⟩) (.inl (h.R.1 g rfl)) _
 have := (Kd.R_putg h.R (p : Int) v).1
 rw [Int.toNat_natCast] at this
 exact ⟨h.b.trans (hk.belowB (fun k hk => hk) h.b.size), this, by rw [List.length_set]; exact h.len⟩
theorem AtO.cell (h : AtO n w6 wi (some ⟨g, 0, none⟩) cap o) (p : Nat) (hp : p < n) : wi.cell? ⟨g, p, none⟩ = some (.int .i64 (rd o (p : Int))) ∧ wi.frozen? ⟨g, p, none⟩ = false := by
 obtain ⟨h1, h2⟩ := Kd.R_celln 0 h.R (p : Int) (by omega) (by have := h.len; omega)
 rw [Int.toNat_natCast] at h1 h2
 exact ⟨h1, h2⟩
end
section
variable {w w' : World} {W R : Int} {AL : Option Addr} {cL : Nat} {Lat : List Int} {AP : Option Addr} {cP : Nat} {P : List Int} {AI : Option Addr} {cI : Nat} {B : List S48} {A3 : Option Addr} {c3 : Nat} {t1 : List Int} {A4 : Option Addr} {c4 : Nat} {t2 : List Int} {A5 : Option Addr} {c5 : Nat} {t3 : List S98} {t0 t4 : Int}
end
end Go.Proofs.YtjacphcbiaacnaaDoor
end

