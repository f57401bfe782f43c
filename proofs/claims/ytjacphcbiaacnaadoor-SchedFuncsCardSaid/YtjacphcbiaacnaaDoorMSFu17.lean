import Derived.Test.YtjacphcbiaacnaaDoorMSFu16
section
set_option linter.unusedVariables false
set_option linter.unusedSimpArgs false
set_option linter.unusedSectionVars false
namespace Go.Proofs.YtjacphcbiaacnaaDoor
open Go.RowKit Go.Proofs.YtjacphcbiaacnaaDoorW.PrintWords Go.Proofs.YtjacphcbiaacnaaDoorW.PrintMore Go.Proofs.YtjacphcbiaacnaaDoorW.PrintLast Go.Proofs.YtjacphcbiaacnaaDoor.PDigraphTells Mem Sc RowI
def reord (b : S31) (o : List Int) : S31 := ⟨b.f0, o.map fun k => rd_T48 b.f1 k, b.f2⟩
def IsSch (W R : Int) (Lat : List Int) (xs Rs : List S31) : Prop := (validB W R Lat = false ∧ Rs = xs) ∨ (validB W R Lat = true ∧ Rs.length = xs.length ∧ ∀ (j : Nat) (b : S31), xs[j]? = some b → ∃ o y, IsB W R Lat b.f1 o y ∧ Rs[j]? = some (reord b o))
theorem IsSch.uniq {W R : Int} {Lat : List Int} {xs Rs Rs' : List S31} (h : IsSch W R Lat xs Rs) (g : IsSch W R Lat xs Rs') : Rs = Rs' := by
 rcases h with ⟨h1, rfl⟩ | ⟨h1, h2, h3⟩ <;> rcases g with ⟨g1, rfl⟩ | ⟨g1, g2, g3⟩
 ·rfl
 ·rw [h1] at g1; cases g1
 ·rw [h1] at g1; cases g1
 ·refine List.ext_getElem? fun j => ?_
  rcases Nat.lt_or_ge j xs.length with hj | hj
  ·obtain ⟨o, y, e1, e2⟩ := h3 j _ (List.getElem?_eq_getElem hj)
   obtain ⟨o', y', f1, f2⟩ := g3 j _ (List.getElem?_eq_getElem hj)
   obtain ⟨rfl, rfl⟩ := e1.uniq f1
   rw [e2, f2]
  ·rw [List.getElem?_eq_none (by omega), List.getElem?_eq_none (by omega)]
structure Done (W R : Int) (Lat : List Int) (xs L : List S31) (i : Nat) : Prop where
 len : L.length = xs.length
 done : ∀ (j : Nat) (b : S31), j < i → xs[j]? = some b → ∃ o y, IsB W R Lat b.f1 o y ∧ L[j]? = some (reord b o)
 left : ∀ j : Nat, i ≤ j → L[j]? = xs[j]?
theorem Done.start {W R : Int} {Lat : List Int} (xs : List S31) : Done W R Lat xs xs 0 := ⟨rfl, fun j b hj => by omega, fun _ _ => rfl⟩
theorem Done.next {W R : Int} {Lat : List Int} {xs L : List S31} {i : Nat} (h : Done W R Lat xs L i) {b : S31} (hb : xs[i]? = some b) {o y : List Int} (hI : IsB W R Lat b.f1 o y) : Done W R Lat xs (L.set i (reord b o)) (i + 1) := by
 have hil : i < L.length := by rw [h.len]; exact (List.getElem?_eq_some_iff.1 hb).1
 refine ⟨by rw [List.length_set]; exact h.len, fun j b' hj hb' => ?_, fun j hj => ?_⟩
 ·by_cases e : j = i
  ·subst e
   rw [hb] at hb'
   injection hb' with hb'
   subst hb'
   exact ⟨o, y, hI, List.getElem?_set_self hil⟩
  ·rw [List.getElem?_set_ne (Ne.symm e)]
   exact h.done j b' (by omega) hb'
 ·rw [List.getElem?_set_ne (by omega)]
  exact h.left j (by omega)
theorem Done.sch {W R : Int} {Lat : List Int} {xs L : List S31} (hv : validB W R Lat = true) (h : Done W R Lat xs L xs.length) : IsSch W R Lat xs L :=
 .inr ⟨hv, h.len, fun j b hb => h.done j b (List.getElem?_eq_some_iff.1 hb).1 hb⟩
def SF (w : World) (W R : Int) (Lat : List Int) (x : S55) (e : Ending) (w' : World) : Prop :=
 ∃ Rs AP cP AR cR AB cB, IsSch W R Lat x.f6 Rs ∧ e = .returned (.agg #[.string x.f0, .slice AP x.f1.length cP, .int .i64 x.f2, .slice AR x.f3.length cR, .int .i64 x.f4, .int .i64 x.f5, .slice AB Rs.length cB]) ∧ x.f1.length ≤ cP ∧ x.f3.length ≤ cR ∧ Rs.length ≤ cB ∧
  Kd.C (Kd.int .i64) w' AP x.f1.length x.f1 ∧ Kd.C (Kd.int .i64) w' AR x.f3.length x.f3 ∧ Kd.C k31 w' AB Rs.length Rs ∧ Below w.heap.size w w'
theorem box_three {w w3 : World} {c0 c1 c2 : Array Value} {t0 t1 t2 : Nat} (h : ((w.alloc (.cells c0 t0 (0, 0))).alloc (.cells c1 t1 (0, 0))).alloc (.cells c2 t2 (0, 0)) = w3) {b0 : Nat} (hb : w.heap.size = b0) : Below w.heap.size w w3 ∧ w3.heap[b0]? = some (.cells c0 t0 (0, 0)) ∧ w3.heap[b0 + 1]? = some (.cells c1 t1 (0, 0)) ∧ w3.heap[b0 + 2]? = some (.cells c2 t2 (0, 0)) ∧ w3.heap.size = b0 + 3 := by
 obtain ⟨w1, h1⟩ : ∃ w1, w.alloc (.cells c0 t0 (0, 0)) = w1 := ⟨_, rfl⟩
 rw [h1] at h
 have s1 : w1.heap.size = b0 + 1 := by rw [← h1]; simp [hb]
 have e1 : w1.heap[b0]? = some (.cells c0 t0 (0, 0)) := by rw [← h1, ← hb]; exact heap_alloc_new w _
 have B1 : Below w.heap.size w w1 := by rw [← h1]; exact below_alloc (Below.refl _ w) _
 obtain ⟨w2, h2⟩ : ∃ w2, w1.alloc (.cells c1 t1 (0, 0)) = w2 := ⟨_, rfl⟩
 rw [h2] at h
 have s2 : w2.heap.size = b0 + 2 := by rw [← h2]; simp [s1]
 have e2 : w2.heap[b0 + 1]? = some (.cells c1 t1 (0, 0)) := by rw [← h2, ← s1]; exact heap_alloc_new w1 _
 have B2 : Below w1.heap.size w1 w2 := by rw [← h2]; exact below_alloc (Below.refl _ w1) _
 have s3 : w3.heap.size = b0 + 3 := by rw [← h]; simp [s2]
 have e3 : w3.heap[b0 + 2]? = some (.cells c2 t2 (0, 0)) := by rw [← h, ← s2]; exact heap_alloc_new w2 _
 have B3 : Below w2.heap.size w2 w3 := by rw [← h]; exact below_alloc (Below.refl _ w2) _
 exact ⟨bl1 (bl1 B1 B2) B3, (B3.block _ (by omega)).trans ((B2.block _ (blk_lt' e1)).trans e1), (B3.block _ (blk_lt' e2)).trans e2, e3, s3⟩
def UF (w : World) (b0 bg k : Nat) : Prop := (k < w.heap.size ∨ b0 + 3 ≤ k) ∧ k ≠ bg
structure FU (w : World) (x : S55) (W R : Int) (AL : Option Addr) (cL nL b0 bg : Nat) (A1 : Option Addr) (d1 : Nat) (A2 : Option Addr) (d2 : Nat) (vB : Value) (ok : Nat → Prop) (wi : World) : Prop where
 ou : OU w x bg (b0 + 2) A1 d1 A2 d2 vB ok wi
 md : wi.heap[b0]? = some (.cells #[.int .i64 W, .int .i64 R, .slice AL nL cL] 24 (0, 0))
section
variable {w : World} {x : S55} {W R : Int} {AL : Option Addr} {cL nL b0 bg : Nat} {A1 : Option Addr} {d1 : Nat} {A2 : Option Addr} {d2 : Nat} {vB : Value} {ok ok' : Nat → Prop} {wi wj : World}
theorem FU.below (h : FU w x W R AL cL nL b0 bg A1 d1 A2 d2 vB ok wi) (hb : Below wi.heap.size wi wj) : FU w x W R AL cL nL b0 bg A1 d1 A2 d2 vB ok wj := ⟨h.ou.below hb, (hb.block _ (blk_lt' h.md)).trans h.md⟩
theorem FU.mono (h : FU w x W R AL cL nL b0 bg A1 d1 A2 d2 vB ok wi) (hk : ∀ k, ok k → ok' k) : FU w x W R AL cL nL b0 bg A1 d1 A2 d2 vB ok' wi := ⟨h.ou.mono hk, h.md⟩
theorem FU.bound (h : FU w x W R AL cL nL b0 bg A1 d1 A2 d2 vB ok wi) : FU w x W R AL cL nL b0 bg A1 d1 A2 d2 vB (fun k => ok k ∧ k < wi.heap.size) wi := ⟨h.ou.bound, h.md⟩
theorem FU.far (h : FU w x W R AL cL nL b0 bg A1 d1 A2 d2 vB ok wi) {p : Addr} (hp : w.heap.size ≤ p.block) (h0 : b0 ≠ p.block) (h1 : bg ≠ p.block) (h2 : b0 + 2 ≠ p.block) (hk : ∀ k, ok k → k ≠ p.block) (u : Value) : FU w x W R AL cL nL b0 bg A1 d1 A2 d2 vB ok (wi.setCell p u) := ⟨h.ou.far hp h1 h2 hk u, by rw [Below.heap_setCell wi p u b0 h0]; exact h.md⟩
theorem FU.cells (h : FU w x W R AL cL nL b0 bg A1 d1 A2 d2 vB ok wi) : wi.cell? ⟨b0, 0, none⟩ = some (.int .i64 W) ∧ wi.cell? ⟨b0, 1, none⟩ = some (.int .i64 R) ∧ wi.cell? ⟨b0, 2, none⟩ = some (.slice AL nL cL) ∧ wi.cell? ⟨bg, 6, none⟩ = some vB := ⟨cell_at h.md rfl, cell_at h.md rfl, cell_at h.md rfl, cell_at h.ou.box rfl⟩
theorem fu_start {w4 w5 : World} {A3 : Option Addr} {d3 s3 : Nat} (hb0 : w.heap.size = b0) (hbg : w4.heap.size = bg) (B4 : Below w.heap.size w w4) (m4 : w4.heap[b0]? = some (.cells #[.int .i64 W, .int .i64 R, .slice AL nL cL] 24 (0, 0))) (z4 : w4.heap[b0 + 2]? = some (.cells #[.string { data := #[] }, .slice none 0 0, .int .i64 0, .slice none 0 0, .int .i64 0, .int .i64 0, .slice none 0 0] 55 (0, 0))) (hs3 : s3 = b0 + 3)
  (l1 : x.f1.length ≤ d1) (l2 : x.f3.length ≤ d2) (F1 : Kd.F (Kd.int .i64) w4 (fun k => (k < w.heap.size ∨ s3 + 2 ≤ k) ∧ some k ≠ (Value.slice A3 x.f6.length d3).ownBlock) A1 x.f1.length x.f1) (F2 : Kd.F (Kd.int .i64) w4 (fun k => (k < w.heap.size ∨ s3 + 2 ≤ k) ∧ some k ≠ (Value.slice A3 x.f6.length d3).ownBlock) A2 x.f3.length x.f3) (N3 : Kd.N k31 31 w4 0 (fun k => k < w.heap.size ∨ s3 + 2 ≤ k) (.slice A3 x.f6.length d3) x.f6) (hfr : ∀ g, A3 = some ⟨g, 0, none⟩ → s3 ≤ g)
  (hw5 : w4.alloc (.cells #[.string x.f0, .slice A1 x.f1.length d1, .int .i64 x.f2, .slice A2 x.f3.length d2, .int .i64 x.f4, .int .i64 x.f5, .slice A3 x.f6.length d3] 55 (0, 0)) = w5) :
  FU w x W R AL cL nL b0 bg A1 d1 A2 d2 (.slice A3 x.f6.length d3) (fun k => UF w b0 bg k ∧ some k ≠ (Value.slice A3 x.f6.length d3).ownBlock) w5 ∧ Kd.N k31 31 w5 0 (UF w b0 bg) (.slice A3 x.f6.length d3) x.f6 ∧ (∀ g, A3 = some ⟨g, 0, none⟩ → b0 + 2 < g ∧ g ≠ bg) := by
 have B5 : Below w4.heap.size w4 w5 := by rw [← hw5]; exact below_alloc (Below.refl _ w4) _
 have hbd : ∀ k, (k < w.heap.size ∨ s3 + 2 ≤ k) → k < w4.heap.size → UF w b0 bg k := fun k hk hlt => ⟨hk.imp id (fun h => by omega), by omega⟩
 refine ⟨⟨⟨bl1 B4 B5, by rw [← hw5, ← hbg]; exact heap_alloc_new w4 _, ⟨_, (B5.block _ (blk_lt' z4)).trans z4, rfl⟩, l1, Kd.F_mono (Kd.F_below (Kd.F_bound F1) B5) (fun k hk => ⟨hbd k hk.1.1 hk.2, hk.1.2⟩), l2, Kd.F_mono (Kd.F_below (Kd.F_bound F2) B5) (fun k hk => ⟨hbd k hk.1.1 hk.2, hk.1.2⟩)⟩, (B5.block _ (blk_lt' m4)).trans m4⟩, Kd.N_mono (Kd.N_below (Kd.N_bound N3) B5) (fun k hk => hbd k hk.1 hk.2), fun g hg => ⟨by have := hfr g hg; omega, fun e => ?_⟩⟩
 have h1 := Kd.N_lt N3 g (by rw [hg]; simp [Value.ownBlock])
 omega
theorem UF.ne {k : Nat} (hb0 : w.heap.size = b0) (h : UF w b0 bg k) : k ≠ b0 ∧ k ≠ b0 + 1 ∧ k ≠ b0 + 2 ∧ k ≠ bg := by
 obtain ⟨h1, h2⟩ := h
 omega
set_option maxRecDepth 100000 in
set_option maxHeartbeats 8000000 in
theorem sf_end {Lat : List Int} {A3 : Option Addr} {d3 : Nat} {Rs : List S31} {w9 : World} (hb0 : w.heap.size = b0) (h : FU w x W R AL cL nL b0 bg A1 d1 A2 d2 (.slice A3 x.f6.length d3) (fun k => UF w b0 bg k ∧ some k ≠ (Value.slice A3 x.f6.length d3).ownBlock) wi) (hN : Kd.N k31 31 wi 0 (UF w b0 bg) (.slice A3 x.f6.length d3) Rs) (hI : IsSch W R Lat x.f6 Rs) {cs : Array Value} (hr : wi.heap[b0 + 2]? = some (.cells cs 55 (0, 0))) (hcs : ∃ y0 y1 y2 y3 y4 y5 y6, cs = #[y0, y1, y2, y3, y4, y5, y6])
  (hw9 : ((((((wi.setCell ⟨b0 + 2, 0, none⟩ (.string x.f0)).setCell ⟨b0 + 2, 1, none⟩ (.slice A1 x.f1.length d1)).setCell ⟨b0 + 2, 2, none⟩ (.int .i64 x.f2)).setCell ⟨b0 + 2, 3, none⟩ (.slice A2 x.f3.length d2)).setCell ⟨b0 + 2, 4, none⟩ (.int .i64 x.f4)).setCell ⟨b0 + 2, 5, none⟩ (.int .i64 x.f5)).setCell ⟨b0 + 2, 6, none⟩ (.slice A3 x.f6.length d3) = w9) :
  w9.heap[b0 + 2]? = some (.cells #[.string x.f0, .slice A1 x.f1.length d1, .int .i64 x.f2, .slice A2 x.f3.length d2, .int .i64 x.f4, .int .i64 x.f5, .slice A3 x.f6.length d3] 55 (0, 0)) ∧
  SF w W R Lat x (.returned (.agg #[.string x.f0, .slice A1 x.f1.length d1, .int .i64 x.f2, .slice A2 x.f3.length d2, .int .i64 x.f4, .int .i64 x.f5, .slice A3 x.f6.length d3])) w9 := by
 obtain ⟨y0, y1, y2, y3, y4, y5, y6, rfl⟩ := hcs
 have kp : Kp (fun k => k = b0 + 2) wi w9 := by
  rw [← hw9]
  exact (((((((Kp.refl (fun k => k = b0 + 2) wi).setCell (p := ⟨b0 + 2, 0, none⟩) (.inl rfl) _).setCell (p := ⟨b0 + 2, 1, none⟩) (.inl rfl) _).setCell (p := ⟨b0 + 2, 2, none⟩) (.inl rfl) _).setCell (p := ⟨b0 + 2, 3, none⟩) (.inl rfl) _).setCell (p := ⟨b0 + 2, 4, none⟩) (.inl rfl) _).setCell (p := ⟨b0 + 2, 5, none⟩) (.inl rfl) _).setCell (p := ⟨b0 + 2, 6, none⟩) (.inl rfl) _
 have hm : ∀ k, k ≠ b0 + 2 → k < wi.heap.size → w9.heap[k]? = wi.heap[k]? := fun k hk hlt => kp.block hlt hk
 refine ⟨by rw [← hw9]; exact set_at (set_at (set_at (set_at (set_at (set_at (set_at hr _) _) _) _) _) _) _, ?_⟩
 have hRl : Rs.length = x.f6.length := by
  rcases hI with ⟨_, rfl⟩ | ⟨_, h2, _⟩
  ·rfl
  ·exact h2
 have hNr := Kd.N_reads' (Kd.N_step hN (w1 := w9) (fun k hk hlt => hm k (hk.ne hb0).2.2.1 hlt))
 refine ⟨Rs, A1, d1, A2, d2, A3, d3, hI, by rw [hRl], h.ou.hP, h.ou.hR, by rw [← hNr.1]; exact hNr.2.1, Kd.F_now (Kd.F_step h.ou.P (fun k hk hlt => hm k (hk.1.ne hb0).2.2.1 hlt)), Kd.F_now (Kd.F_step h.ou.R (fun k hk hlt => hm k (hk.1.ne hb0).2.2.1 hlt)), hNr.2.2, ?_⟩
 exact ((Kp.of_below h.ou.b (fun k => w.heap.size ≤ k)).then_ kp (fun k hk => .inr (by omega))).belowB (fun k hk => hk) (Nat.le_refl _)
end
theorem at48F {W : World} {ok : Nat → Prop} {A : Option Addr} {n : Nat} {xs : List S48} (h : Kd.F k48 W ok A n xs) (i : Int) (h0 : 0 ≤ i) (h1 : i < n) : ∃ ad A3 c3, A = some ad ∧ W.cell? (ad.add (i.toNat * 8)) = some (.int .i64 (rd_T48 xs i).f0) ∧ W.cell? ⟨(ad.add (i.toNat * 8)).block, (ad.add (i.toNat * 8)).off + 1, none⟩ = some (.int .i64 (rd_T48 xs i).f1) ∧ W.cell? ⟨(ad.add (i.toNat * 8)).block, (ad.add (i.toNat * 8)).off + 2, none⟩ = some (.int .i64 (rd_T48 xs i).f2) ∧ W.cell? ⟨(ad.add (i.toNat * 8)).block, (ad.add (i.toNat * 8)).off + 3, none⟩ = some (.slice A3 (rd_T48 xs i).f3.length c3) ∧ W.cell? ⟨(ad.add (i.toNat * 8)).block, (ad.add (i.toNat * 8)).off + 4, none⟩ = some (.int .i64 (rd_T48 xs i).f4) ∧ W.cell? ⟨(ad.add (i.toNat * 8)).block, (ad.add (i.toNat * 8)).off + 5, none⟩ = some (.int .i64 (rd_T48 xs i).f5) ∧ W.cell? ⟨(ad.add (i.toNat * 8)).block, (ad.add (i.toNat * 8)).off + 6, none⟩ = some (.int .i64 (rd_T48 xs i).f6) ∧ W.cell? ⟨(ad.add (i.toNat * 8)).block, (ad.add (i.toNat * 8)).off + 7, none⟩ = some (.bool (rd_T48 xs i).f7) ∧ (rd_T48 xs i).f3.length ≤ c3 ∧ Kd.F (Kd.int .i64) W ok A3 (rd_T48 xs i).f3.length (rd_T48 xs i).f3 := by
 obtain ⟨ad, c, e, _, hK, hc0, _⟩ := Kd.F_get h z48 i h0 h1
 have hc : ∀ j u, c[j]? = some u → W.cell? (ad.add (i.toNat * 8 + j)) = some u := hc0
 obtain ⟨A3, c3, rfl, l3, g3⟩ := k48_openF hK
 exact ⟨ad, A3, c3, e, hc 0 _ rfl, by rw [← add_field _ _ 1 (by omega)]; exact hc 1 _ rfl, by rw [← add_field _ _ 2 (by omega)]; exact hc 2 _ rfl, by rw [← add_field _ _ 3 (by omega)]; exact hc 3 _ rfl, by rw [← add_field _ _ 4 (by omega)]; exact hc 4 _ rfl, by rw [← add_field _ _ 5 (by omega)]; exact hc 5 _ rfl, by rw [← add_field _ _ 6 (by omega)]; exact hc 6 _ rfl, by rw [← add_field _ _ 7 (by omega)]; exact hc 7 _ rfl, l3, g3⟩
theorem own_le {A : Option Addr} {gN n c m : Nat} (hA : A = some ⟨gN, 0, none⟩) (h : ∃ b, (Value.slice A n c).ownBlock = some b ∧ m ≤ b) : m ≤ gN := by
 subst hA
 obtain ⟨b, h1, h2⟩ := h
 have h3 : gN = b := by simpa [Value.ownBlock] using h1
 omega
def fillM (B : List S48) (o : List Int) (k : Nat) : List S48 := ((o.take k).map fun a => rd_T48 B a) ++ List.replicate (o.length - k) z48
theorem fillM_len {B : List S48} {o : List Int} {k : Nat} (h : k ≤ o.length) : (fillM B o k).length = o.length := by
 unfold fillM
 rw [List.length_append, List.length_map, List.length_take, List.length_replicate]; omega
theorem fillM_set {B : List S48} {o : List Int} {k : Nat} (h : k < o.length) : (fillM B o k).set k (rd_T48 B o[k]) = fillM B o (k + 1) := by
 unfold fillM
 have hl : ((o.take k).map fun a => rd_T48 B a).length = k := by rw [List.length_map, List.length_take]; omega
 rw [List.set_append_right _ _ (by omega), hl, Nat.sub_self, show o.length - k = (o.length - (k + 1)) + 1 by omega, List.replicate_succ, List.set_cons_zero, List.take_succ_eq_append_getElem h, List.map_append, List.append_assoc]
 rfl
theorem fillM_zero (B : List S48) (o : List Int) : fillM B o 0 = List.replicate o.length z48 := by simp [fillM]
theorem fillM_end (B : List S48) (o : List Int) : fillM B o o.length = o.map fun a => rd_T48 B a := by simp [fillM]
structure IFB (w : World) (x : S55) (W R : Int) (AL : Option Addr) (cL nL b0 bg : Nat) (A1 : Option Addr) (d1 : Nat) (A2 : Option Addr) (d2 : Nat) (g n cap i : Nat) (L : List S31) (c : List Value) (xb : S31) (A0 Ai A7 A8 A9 : Option Addr) (bb : Nat) (o : List Int) (Ao : Option Addr) (m : Nat) (wi : World) : Prop where
 fu : FU w x W R AL cL nL b0 bg A1 d1 A2 d2 (.slice (some ⟨g, 0, none⟩) n cap) (fun k => (UF w b0 bg k ∧ k ≠ g) ∧ k < m) wi
 row : RowAt k31 31 wi (fun k => (UF w b0 bg k ∧ k ≠ g) ∧ k < m) g n cap L i c
 F0 : Kd.F (Kd.int .i64) wi (fun k => (UF w b0 bg k ∧ k ≠ g) ∧ k < m) A0 xb.f0.length xb.f0
 F1 : Kd.F k48 wi (fun k => (UF w b0 bg k ∧ k ≠ g) ∧ k < m) Ai xb.f1.length xb.f1
 F3 : Kd.F (Kd.int .i64) wi (fun k => (UF w b0 bg k ∧ k ≠ g) ∧ k < m) A7 xb.f2.f1.length xb.f2.f1
 F4 : Kd.F (Kd.int .i64) wi (fun k => (UF w b0 bg k ∧ k ≠ g) ∧ k < m) A8 xb.f2.f2.length xb.f2.f2
 F5 : Kd.F k98 wi (fun k => (UF w b0 bg k ∧ k ≠ g) ∧ k < m) A9 xb.f2.f3.length xb.f2.f3
 fo : Kd.F (Kd.int .i64) wi (fun k => k < m) Ao o.length o
 bk : wi.heap[bb]? = some (.cells c.toArray 31 (0, 0))
 hbb : bb < m
 hg : g < m
 hbg : bg < m
 hb0 : b0 + 2 < m
 hm : m ≤ wi.heap.size
section
variable {w : World} {x : S55} {W R : Int} {AL : Option Addr} {cL nL b0 bg : Nat} {A1 : Option Addr} {d1 : Nat} {A2 : Option Addr} {d2 : Nat} {g n cap i : Nat} {L : List S31} {c : List Value} {xb : S31} {A0 Ai A7 A8 A9 : Option Addr} {bb : Nat} {o : List Int} {Ao : Option Addr} {m : Nat} {wi wj : World}
theorem IFB.below (h : IFB w x W R AL cL nL b0 bg A1 d1 A2 d2 g n cap i L c xb A0 Ai A7 A8 A9 bb o Ao m wi) (hb : Below wi.heap.size wi wj) : IFB w x W R AL cL nL b0 bg A1 d1 A2 d2 g n cap i L c xb A0 Ai A7 A8 A9 bb o Ao m wj :=
 ⟨h.fu.below hb, h.row.below hb, Kd.F_below h.F0 hb, Kd.F_below h.F1 hb, Kd.F_below h.F3 hb, Kd.F_below h.F4 hb, Kd.F_below h.F5 hb, Kd.F_below h.fo hb, (hb.block _ (blk_lt' h.bk)).trans h.bk, h.hbb, h.hg, h.hbg, h.hb0, Nat.le_trans h.hm hb.size⟩
theorem IFB.far (h : IFB w x W R AL cL nL b0 bg A1 d1 A2 d2 g n cap i L c xb A0 Ai A7 A8 A9 bb o Ao m wi) (hw : w.heap.size = b0) {gN j : Nat} (hp : m ≤ gN) (u : Value) : IFB w x W R AL cL nL b0 bg A1 d1 A2 d2 g n cap i L c xb A0 Ai A7 A8 A9 bb o Ao m (wi.setCell ⟨gN, j, none⟩ u) := by
 have h1 := h.hbb
 have h2 := h.hg
 have h3 := h.hbg
 have h4 := h.hb0
 have hk : ∀ k, ((UF w b0 bg k ∧ k ≠ g) ∧ k < m) → k ≠ gN := fun k hk => by have := hk.2; omega
 exact ⟨h.fu.far (p := ⟨gN, j, none⟩) (by show w.heap.size ≤ gN; omega) (by show b0 ≠ gN; omega) (by show bg ≠ gN; omega) (by show b0 + 2 ≠ gN; omega) hk u, h.row.far (p := ⟨gN, j, none⟩) hk (by show g ≠ gN; omega) u, Kd.F_far h.F0 (p := ⟨gN, j, none⟩) hk u, Kd.F_far h.F1 (p := ⟨gN, j, none⟩) hk u, Kd.F_far h.F3 (p := ⟨gN, j, none⟩) hk u, Kd.F_far h.F4 (p := ⟨gN, j, none⟩) hk u, Kd.F_far h.F5 (p := ⟨gN, j, none⟩) hk u, Kd.F_far h.fo (p := ⟨gN, j, none⟩) (fun k hk => by show k ≠ gN; omega) u, by rw [Below.heap_setCell wi _ u bb (by show bb ≠ gN; omega)]; exact h.bk, h1, h2, h3, h4, by rw [show (wi.setCell ⟨gN, j, none⟩ u).heap.size = wi.heap.size by simp [World.setCell]]; exact h.hm⟩
end
set_option maxRecDepth 100000 in
set_option maxHeartbeats 8000000 in
theorem sfn_any {w : World} {W R : Int} {AL : Option Addr} {cL : Nat} {Lat : List Int} {x : S55} {AP : Option Addr} {cP : Nat} {AR : Option Addr} {cR : Nat} {AB : Option Addr} {cB : Nat} (gL : Kd.C (Kd.int .i64) w AL Lat.length Lat) (hL : Lat.length ≤ cL) (hLl : Lat.length < 1000000000) (gP : Kd.C (Kd.int .i64) w AP x.f1.length x.f1) (hP : x.f1.length ≤ cP) (gR : Kd.C (Kd.int .i64) w AR x.f3.length x.f3) (hR : x.f3.length ≤ cR) (gB : Kd.C k31 w AB x.f6.length x.f6) (hB : x.f6.length ≤ cB) (hz : szF x) (hsm : ∀ b ∈ x.f6, sml b.f1) (hDN : DN w) :
  Calls Tryd.prog 24 #[.agg #[.int .i64 W, .int .i64 R, .slice AL Lat.length cL], .agg #[.string x.f0, .slice AP x.f1.length cP, .int .i64 x.f2, .slice AR x.f3.length cR, .int .i64 x.f4, .int .i64 x.f5, .slice AB x.f6.length cB]] w (SF w W R Lat x) := by
 have h0 : 0 < w.heap.size := hDN.pos
 have hD := Aside0.mk (fun (W1 : World) (hb : Below w.heap.size w W1) => hDN.below hb h0)
 obtain ⟨q, hq⟩ := (valid_f W R Lat hLl).get
 have hV := Aside0.mk (fun (W1 : World) (e1 : Below w.heap.size w W1) => machine_ValidModel.calls q W R AL cL Lat _ W1 (Kd.C_below gL e1) hL hq)
 obtain ⟨vb, hvb⟩ : ∃ vb, validB W R Lat = vb := ⟨_, rfl⟩
 rw [hvb] at hV
 have hX := Aside0.mk (And.intro gL (And.intro hL (And.intro hLl (And.intro gP (And.intro hP (And.intro gR (And.intro hR (And.intro gB (And.intro hB (And.intro hz (And.intro hsm hvb)))))))))))
 clear gP hP gR hR gB hB hz gL hL hLl hsm hvb hDN h0 hq
 go_enter Tryd.func24, Tryd.ntmps24
 go_wp2_with fail
 obtain ⟨w3, hw3⟩ : ∃ w3, ((w.alloc (.cells #[.int .i64 W, .int .i64 R, .slice AL Lat.length cL] 24 (0, 0))).alloc (.cells #[.string x.f0, .slice AP x.f1.length cP, .int .i64 x.f2, .slice AR x.f3.length cR, .int .i64 x.f4, .int .i64 x.f5, .slice AB x.f6.length cB] 55 (0, 0))).alloc (.cells #[.string { data := #[] }, .slice none 0 0, .int .i64 0, .slice none 0 0, .int .i64 0, .int .i64 0, .slice none 0 0] 55 (0, 0)) = w3 := ⟨_, rfl⟩
 obtain ⟨b0, hb0⟩ : ∃ b0, w.heap.size = b0 := ⟨_, rfl⟩
 have h3 := box_three hw3 hb0
 rw [hw3, hb0]
 rw [show b0 + 1 + 1 = b0 + 2 from rfl]
 clear hw3
 obtain ⟨B3, m3, _, z3, hs3⟩ := h3
 have H3 := Aside0.mk (And.intro B3 (And.intro m3 (And.intro z3 (And.intro hb0 hs3))))
 clear B3 m3 z3 hs3
 refine (cln_any (okp := fun k => k < w.heap.size) (fun k hk => Nat.lt_of_lt_of_le hk H3.out.1.size) (Kd.F_below (Kd.C_F (Kd.heap_int .i64) hX.out.2.2.2.1) H3.out.1) hX.out.2.2.2.2.1 (Kd.F_below (Kd.C_F (Kd.heap_int .i64) hX.out.2.2.2.2.2.1) H3.out.1) hX.out.2.2.2.2.2.2.1 (Kd.F_below (Kd.C_F heap31 hX.out.2.2.2.2.2.2.2.1) H3.out.1) hX.out.2.2.2.2.2.2.2.2.1 hX.out.2.2.2.2.2.2.2.2.2.1).mono ?_
 rintro e w4 ⟨A1, d1, A2, d2, A3, d3, rfl, l1, l2, F1, F2, N3, hfr, B4⟩
 have B4' := bl1 H3.out.1 B4
 have m4 := (B4.block _ (blk_lt' H3.out.2.1)).trans H3.out.2.1
 have z4 := (B4.block _ (blk_lt' H3.out.2.2.1)).trans H3.out.2.2.1
 obtain ⟨bg, hbg⟩ : ∃ bg, w4.heap.size = bg := ⟨_, rfl⟩
 obtain ⟨w5, hw5⟩ : ∃ w5, w4.alloc (.cells #[.string x.f0, .slice A1 x.f1.length d1, .int .i64 x.f2, .slice A2 x.f3.length d2, .int .i64 x.f4, .int .i64 x.f5, .slice A3 x.f6.length d3] 55 (0, 0)) = w5 := ⟨_, rfl⟩
 have H5 : Aside0 (FU w x W R AL cL Lat.length b0 bg A1 d1 A2 d2 (.slice A3 x.f6.length d3) (fun k => UF w b0 bg k ∧ some k ≠ (Value.slice A3 x.f6.length d3).ownBlock) w5 ∧ Kd.N k31 31 w5 0 (UF w b0 bg) (.slice A3 x.f6.length d3) x.f6 ∧ (∀ g, A3 = some ⟨g, 0, none⟩ → b0 + 2 < g ∧ g ≠ bg)) :=
  ⟨fu_start hb0 hbg B4' m4 z4 H3.out.2.2.2.2 l1 l2 F1 F2 N3 hfr hw5⟩
 obtain ⟨u0, u1, u2, _⟩ := H5.out.1.cells
 clear l1 l2 F1 F2 N3 hfr B4 m4 z4
 go_wp2_with fail
 try rw [hw5]
 have hsz5 : Aside0 (w.heap.size = b0) := ⟨H3.out.2.2.2.1⟩
 clear hw5 hbg u0 u1 u2 B4' H3
 refine (hV.out w5 H5.out.1.ou.b).mono ?_
 rintro e w6 ⟨rfl, B6⟩
 have H6 : Aside0 (FU w x W R AL cL Lat.length b0 bg A1 d1 A2 d2 (.slice A3 x.f6.length d3) (fun k => UF w b0 bg k ∧ some k ≠ (Value.slice A3 x.f6.length d3).ownBlock) w6 ∧ Kd.N k31 31 w6 0 (UF w b0 bg) (.slice A3 x.f6.length d3) x.f6 ∧ (∀ g, A3 = some ⟨g, 0, none⟩ → b0 + 2 < g ∧ g ≠ bg)) := ⟨H5.out.1.below B6, Kd.N_below H5.out.2.1 B6, H5.out.2.2⟩
 clear hV B6 H5
 cases vb with
 | false =>
  have hbx := H6.out.1.ou.box
  obtain ⟨cs2, hr2, hs2⟩ := H6.out.1.ou.res
  have u0 : w6.cell? ⟨bg, 0, none⟩ = some (.string x.f0) := cell_at hbx rfl
  have u1 : w6.cell? ⟨bg, 1, none⟩ = some (.slice A1 x.f1.length d1) := cell_at hbx rfl
  have u2 : w6.cell? ⟨bg, 2, none⟩ = some (.int .i64 x.f2) := cell_at hbx rfl
  have u3 : w6.cell? ⟨bg, 3, none⟩ = some (.slice A2 x.f3.length d2) := cell_at hbx rfl
  have u4 : w6.cell? ⟨bg, 4, none⟩ = some (.int .i64 x.f4) := cell_at hbx rfl
  have u5 : w6.cell? ⟨bg, 5, none⟩ = some (.int .i64 x.f5) := cell_at hbx rfl
  have u6 : w6.cell? ⟨bg, 6, none⟩ = some (.slice A3 x.f6.length d3) := cell_at hbx rfl
  have hcs2 := arr7 hs2
  obtain ⟨y0, y1, y2, y3, y4, y5, y6, rfl⟩ := arr7 hs2
  have v0 : w6.cell? ⟨b0 + 2, 0, none⟩ = some y0 := cell_at hr2 rfl
  have z0 := free_at hr2 0
  have v1 : w6.cell? ⟨b0 + 2, 1, none⟩ = some y1 := cell_at hr2 rfl
  have z1 := free_at hr2 1
  have v2 : w6.cell? ⟨b0 + 2, 2, none⟩ = some y2 := cell_at hr2 rfl
  have z2 := free_at hr2 2
  have v3 : w6.cell? ⟨b0 + 2, 3, none⟩ = some y3 := cell_at hr2 rfl
  have z3 := free_at hr2 3
  have v4 : w6.cell? ⟨b0 + 2, 4, none⟩ = some y4 := cell_at hr2 rfl
  have z4 := free_at hr2 4
  have v5 : w6.cell? ⟨b0 + 2, 5, none⟩ = some y5 := cell_at hr2 rfl
  have z5 := free_at hr2 5
  have v6 : w6.cell? ⟨b0 + 2, 6, none⟩ = some y6 := cell_at hr2 rfl
  have z6 := free_at hr2 6
  have hr3 := Aside0.mk (And.intro hr2 hcs2)
  clear hbx hr2 hs2 hcs2
  go_wp2
  obtain ⟨w9, hw9⟩ : ∃ w9, ((((((w6.setCell ⟨b0 + 2, 0, none⟩ (.string x.f0)).setCell ⟨b0 + 2, 1, none⟩ (.slice A1 x.f1.length d1)).setCell ⟨b0 + 2, 2, none⟩ (.int .i64 x.f2)).setCell ⟨b0 + 2, 3, none⟩ (.slice A2 x.f3.length d2)).setCell ⟨b0 + 2, 4, none⟩ (.int .i64 x.f4)).setCell ⟨b0 + 2, 5, none⟩ (.int .i64 x.f5)).setCell ⟨b0 + 2, 6, none⟩ (.slice A3 x.f6.length d3) = w9 := ⟨_, rfl⟩
  obtain ⟨hblk, hSF⟩ := sf_end (Lat := Lat) hsz5.out H6.out.1 H6.out.2.1 (.inl ⟨hX.out.2.2.2.2.2.2.2.2.2.2.2, rfl⟩) hr3.out.1 hr3.out.2 hw9
  rw [hw9]
  refine bodyPost_ret (results_cell_row rfl _ _ (b0 + 2) 55 #[.string x.f0, .slice A1 x.f1.length d1, .int .i64 x.f2, .slice A2 x.f3.length d2, .int .i64 x.f4, .int .i64 x.f5, .slice A3 x.f6.length d3] (0, 0) _ rfl hblk Tryd.underlying55 rfl (by kernel_rfl)) rfl ?_
  exact hSF
 | true =>
  obtain ⟨u0, u1, u2, u6⟩ := H6.out.1.cells
  have hbnB : x.f6.length ≤ 140737488355328 := by have := hX.out.2.2.2.2.2.2.2.2.2.1.2.2.1; omega
  have hI0 : Aside0 (∃ L, Done W R Lat x.f6 L 0 ∧ FU w x W R AL cL Lat.length b0 bg A1 d1 A2 d2 (.slice A3 x.f6.length d3) (fun k => UF w b0 bg k ∧ some k ≠ (Value.slice A3 x.f6.length d3).ownBlock) w6 ∧ Kd.N k31 31 w6 0 (UF w b0 bg) (.slice A3 x.f6.length d3) L ∧ (∀ g, A3 = some ⟨g, 0, none⟩ → b0 + 2 < g ∧ g ≠ bg)) := ⟨x.f6, Done.start _, H6.out⟩
  go_wp2_with fail
  clear u0 u1 u2 u6 H6
  go_loopg [22] x.f6.length (fun q v wi => ∃ i : Nat, i + q = x.f6.length ∧ v = .int .i64 (i : Int) ∧ Aside0 (∃ L, Done W R Lat x.f6 L i ∧ FU w x W R AL cL Lat.length b0 bg A1 d1 A2 d2 (.slice A3 x.f6.length d3) (fun k => UF w b0 bg k ∧ some k ≠ (Value.slice A3 x.f6.length d3).ownBlock) wi ∧ Kd.N k31 31 wi 0 (UF w b0 bg) (.slice A3 x.f6.length d3) L ∧ (∀ g, A3 = some ⟨g, 0, none⟩ → b0 + 2 < g ∧ g ≠ bg)))
  case atStart => exact ⟨0, by omega, rfl, hI0⟩
  case round =>
   obtain ⟨i, hi, rfl, hJ⟩ := hrel
   clear hI0
   by_cases hlt : i < x.f6.length
   ·have hlti : (i : Int) < x.f6.length := by omega
    have hi0 : (0 : Int) ≤ (i : Int) := by omega
    obtain ⟨gk1, rfl⟩ : ∃ q, gk = q + 1 := ⟨gk - 1, by omega⟩
    have hi1 : i + 1 + gk1 = x.f6.length := by omega
    have hgk1 : gk1 < gk1 + 1 := by omega
    obtain ⟨L, hDn, hFU, hNL, hfrs⟩ := hJ.out
    have hLl := hDn.len
    have hiL : i < L.length := by omega
    obtain ⟨g, cq, eA, _, hglt, _⟩ := Kd.N_form hNL (by omega)
    injection eA with eA en ec
    subst eA
    obtain ⟨hg1, hg2⟩ := hfrs g rfl
    obtain ⟨c, hRow, hFK⟩ := RowAt.of_N hNL hiL
    have hxb : x.f6[i]? = some x.f6[i] := List.getElem?_eq_getElem hlt
    have hLi : L[i] = x.f6[i] := by have := hDn.left i (Nat.le_refl _); rw [List.getElem?_eq_getElem hiL, hxb] at this; injection this
    have hsb := hX.out.2.2.2.2.2.2.2.2.2.2.1 x.f6[i] (List.getElem_mem hlt)
    have hzb := hX.out.2.2.2.2.2.2.2.2.2.1.2.2.2 x.f6[i] (List.getElem_mem hlt)
    rw [hLi] at hFK
    obtain ⟨xb, hxe⟩ : ∃ xb, x.f6[i] = xb := ⟨_, rfl⟩
    rw [hxe] at hFK hsb hzb hxb
    obtain ⟨A0, e0, Ai, ei, A7, e7, A8, e8, A9, e9, rfl, l0, F0, l1, F1, l3, F3, l4, F4, l5, F5⟩ := k31_openF hFK
    obtain ⟨hcells, hfr⟩ := hRow.cells
    have x0 : wr.cell? ⟨g, i * 7, none⟩ = some (.slice A0 xb.f0.length e0) := hcells 0 _ rfl
    have x1 : wr.cell? ⟨g, i * 7 + 1, none⟩ = some (.slice Ai xb.f1.length ei) := hcells 1 _ rfl
    have x2 : wr.cell? ⟨g, i * 7 + 2, none⟩ = some (.int .i64 xb.f2.f0) := hcells 2 _ rfl
    have x3 : wr.cell? ⟨g, i * 7 + 3, none⟩ = some (.slice A7 xb.f2.f1.length e7) := hcells 3 _ rfl
    have x4 : wr.cell? ⟨g, i * 7 + 4, none⟩ = some (.slice A8 xb.f2.f2.length e8) := hcells 4 _ rfl
    have x5 : wr.cell? ⟨g, i * 7 + 5, none⟩ = some (.slice A9 xb.f2.f3.length e9) := hcells 5 _ rfl
    have x6 : wr.cell? ⟨g, i * 7 + 6, none⟩ = some (.int .i64 xb.f2.f4) := hcells 6 _ rfl
    obtain ⟨u0, u1, u2, u6⟩ := hFU.cells
    have hR1 := Aside0.mk (And.intro hDn (And.intro (hFU.mono (ok' := fun k => UF w b0 bg k ∧ k ≠ g) (fun k hk => ⟨hk.1, fun e => hk.2 (by rw [e]; simp [Value.ownBlock])⟩)) (And.intro hRow (And.intro hxb (And.intro hsb (And.intro hg1 hg2))))))
    have hFs := Aside0.mk (And.intro l0 (And.intro F0 (And.intro l1 (And.intro F1 (And.intro l3 (And.intro F3 (And.intro l4 (And.intro F4 (And.intro l5 F5)))))))))
    clear hJ hDn hFU hNL hfrs hLl hiL en ec hRow hFK hxb hLi hsb hzb hxe hcells hfr l0 F0 l1 F1 l3 F3 l4 F4 l5 F5 hg1 hg2
    go_upto_region 7 with (fail)
    obtain ⟨bb, hbb⟩ : ∃ bb, wr.heap.size = bb := ⟨_, rfl⟩
    obtain ⟨wb, hwb⟩ : ∃ wb, wr.alloc (.cells #[.slice A0 xb.f0.length e0, .slice Ai xb.f1.length ei, .int .i64 xb.f2.f0, .slice A7 xb.f2.f1.length e7, .slice A8 xb.f2.f2.length e8, .slice A9 xb.f2.f3.length e9, .int .i64 xb.f2.f4] 31 (0, 0)) = wb := ⟨_, rfl⟩
    have Bb : Below wr.heap.size wr wb := by rw [← hwb]; exact below_alloc (Below.refl _ wr) _
    have hbk : wb.heap[bb]? = some (.cells #[.slice A0 xb.f0.length e0, .slice Ai xb.f1.length ei, .int .i64 xb.f2.f0, .slice A7 xb.f2.f1.length e7, .slice A8 xb.f2.f2.length e8, .slice A9 xb.f2.f3.length e9, .int .i64 xb.f2.f4] 31 (0, 0)) := by rw [← hwb, ← hbb]; exact heap_alloc_new wr _
    rw [hwb, hbb]
    have hU := Aside0.mk (And.intro Bb (And.intro hbk hbb))
    have y0 : wb.cell? ⟨bb, 0, none⟩ = some (.slice A0 xb.f0.length e0) := cell_at hbk rfl
    have y1 : wb.cell? ⟨bb, 1, none⟩ = some (.slice Ai xb.f1.length ei) := cell_at hbk rfl
    have y2 : wb.cell? ⟨bb, 2, none⟩ = some (.int .i64 xb.f2.f0) := cell_at hbk rfl
    have y3 : wb.cell? ⟨bb, 3, none⟩ = some (.slice A7 xb.f2.f1.length e7) := cell_at hbk rfl
    have y4 : wb.cell? ⟨bb, 4, none⟩ = some (.slice A8 xb.f2.f2.length e8) := cell_at hbk rfl
    have y5 : wb.cell? ⟨bb, 5, none⟩ = some (.slice A9 xb.f2.f3.length e9) := cell_at hbk rfl
    have y6 : wb.cell? ⟨bb, 6, none⟩ = some (.int .i64 xb.f2.f4) := cell_at hbk rfl
    clear hwb hbb Bb hbk x0 x1 x2 x3 x4 x5 x6 u0 u1 u2 u6
    obtain ⟨u0, u1, u2, _⟩ := (hR1.out.2.1.below hU.out.1).cells
    go_wp2_with fail
    have hBelow : Below w.heap.size w wb := hR1.out.2.1.ou.b.trans (hU.out.1.mono hR1.out.2.1.ou.b.size)
    refine (block_any (W := W) (R := R) (Lat := Lat) (t0 := xb.f2.f0) (t4 := xb.f2.f4) (w := wb) ⟨Kd.C_below hX.out.1 hBelow, hX.out.2.1, Kd.C_below (Kd.F_now hFs.out.2.1) hU.out.1, hFs.out.1, Kd.C_below (Kd.F_now hFs.out.2.2.2.1) hU.out.1, hFs.out.2.2.1, Kd.C_below (Kd.F_now hFs.out.2.2.2.2.2.1) hU.out.1, hFs.out.2.2.2.2.1, Kd.C_below (Kd.F_now hFs.out.2.2.2.2.2.2.2.1) hU.out.1, hFs.out.2.2.2.2.2.2.1, Kd.C_below (Kd.F_now hFs.out.2.2.2.2.2.2.2.2.2) hU.out.1, hFs.out.2.2.2.2.2.2.2.2.1⟩ hR1.out.2.2.2.2.1 hX.out.2.2.1 (hD.out wb hBelow)).mono ?_
    rintro e wc ⟨vo, vy, o, y, rfl, hIs, r1, r2, Bc⟩
    obtain ⟨Ao, co, ev, ho, Co⟩ := Kd.R_reads r1
    subst ev
    obtain ⟨hb1, hb2, hb3⟩ := hIs.bounds hR1.out.2.2.2.2.1.len
    have ho60 : o.length ≤ 60 := Nat.le_trans hb2 hR1.out.2.2.2.2.1.len
    have hY := Aside0.mk (And.intro hIs (And.intro ho (fun j hj => (hb3 j hj).1)))
    have y1' := (Bc.cell (World.block_lt_of_cell? _ _ y1)).trans y1
    have hIF : Aside0 (IFB w x W R AL cL Lat.length b0 bg A1 d1 A2 d2 g x.f6.length d3 i L [.slice A0 xb.f0.length e0, .slice Ai xb.f1.length ei, .int .i64 xb.f2.f0, .slice A7 xb.f2.f1.length e7, .slice A8 xb.f2.f2.length e8, .slice A9 xb.f2.f3.length e9, .int .i64 xb.f2.f4] xb A0 Ai A7 A8 A9 bb o Ao wc.heap.size wc) := by
     have hBc := bl1 hU.out.1 Bc
     have hsz : wr.heap.size ≤ wc.heap.size := hBc.size
     have bd : ∀ k, ((UF w b0 bg k ∧ k ≠ g) ∧ k < wr.heap.size) → (UF w b0 bg k ∧ k ≠ g) ∧ k < wc.heap.size := fun k hk => ⟨hk.1, by have := hk.2; omega⟩
     obtain ⟨csr, hcsr, _⟩ := hR1.out.2.1.ou.res
     have hq1 := blk_lt' hcsr
     have hq2 := blk_lt' hR1.out.2.1.ou.box
     have hq3 := hR1.out.2.2.1.lt
     exact ⟨(hR1.out.2.1.bound.below hBc).mono bd, (hR1.out.2.2.1.bound.below hBc).mono bd, Kd.F_mono (Kd.F_below (Kd.F_bound hFs.out.2.1) hBc) bd, Kd.F_mono (Kd.F_below (Kd.F_bound hFs.out.2.2.2.1) hBc) bd, Kd.F_mono (Kd.F_below (Kd.F_bound hFs.out.2.2.2.2.2.1) hBc) bd, Kd.F_mono (Kd.F_below (Kd.F_bound hFs.out.2.2.2.2.2.2.2.1) hBc) bd, Kd.F_mono (Kd.F_below (Kd.F_bound hFs.out.2.2.2.2.2.2.2.2.2) hBc) bd, Kd.C_F (Kd.heap_int .i64) Co, (Bc.block _ (blk_lt' hU.out.2.1)).trans hU.out.2.1, Nat.lt_of_lt_of_le (blk_lt' hU.out.2.1) Bc.size, by omega, by omega, by omega, Nat.le_refl _⟩
    clear r1 r2 hIs ho Co hb1 hb2 hb3 Bc hBelow y0 y1 y2 y3 y4 y5 y6 u0 u1 u2
    go_wp2_with (at_make; refine Kd.N_make k48 (w0 := wc) 0 48 (by rfl) (N' := 35) (by rfl) 25 (.tmp 34) (.tmp 34) (by rfl) (o.length : Int) (by rfl) (by rfl) Tryd.underlying25 (.agg #[.int .i64 0, .int .i64 0, .int .i64 0, .slice none 0 0, .int .i64 0, .int .i64 0, .int .i64 0, .bool false]) 80 infoZN rfl (by decide) (by decide) z48 (ok := fun k => UF w b0 bg k ∧ k ≠ g) (okp := fun _ => False) (k48_mkF _ _ z48 (A3 := none) (c3 := 0) (Nat.le_refl _) (Kd.F_nil _ _ _)) (fun _ hk => hk.elim) (by have h1 := hIF.out.hg; have h2 := hIF.out.hbg; have h3 := hIF.out.hb0; exact ⟨⟨.inr (by omega), by omega⟩, by omega⟩) (by omega) (by rw [Int.toNat_natCast]; omega) ((Kp.refl (fun _ => False) wc).belowB (fun _ h => h.elim) (Nat.zero_le _)) (Nat.zero_le _) ?_; intro v7 w7 hN7 hB7 hg7 hat7; rw [Int.toNat_natCast, ← fillM_zero xb.f1 o] at hN7; have hb7 : Below wc.heap.size wc w7 := ((Kp.refl (fun _ => False) wc).grown hg7 (fun k hk => by cases hk)).none_below; obtain ⟨AN, cN, ev⟩ := Kd.N_slice hN7; rw [fillM_len (Nat.zero_le _)] at ev; subst ev; have hI7 : Aside0 (IFB w x W R AL cL Lat.length b0 bg A1 d1 A2 d2 g x.f6.length d3 i L [.slice A0 xb.f0.length e0, .slice Ai xb.f1.length ei, .int .i64 xb.f2.f0, .slice A7 xb.f2.f1.length e7, .slice A8 xb.f2.f2.length e8, .slice A9 xb.f2.f3.length e9, .int .i64 xb.f2.f4] xb A0 Ai A7 A8 A9 bb o Ao wc.heap.size w7 ∧ Kd.N k48 48 w7 0 (fun k => UF w b0 bg k ∧ k ≠ g) (.slice AN o.length cN) (fillM xb.f1 o 0) ∧ ∀ gN, AN = some ⟨gN, 0, none⟩ → wc.heap.size ≤ gN) := ⟨⟨hIF.out.below hb7, hN7, fun gN hA => own_le hA hat7⟩⟩; clear hN7 hB7 hg7 hat7 hb7)
    clear y1' hIF
    go_loopg [38] o.length (fun q v wi => ∃ k : Nat, k + q = o.length ∧ v = .int .i64 (k : Int) ∧ Aside0 (IFB w x W R AL cL Lat.length b0 bg A1 d1 A2 d2 g x.f6.length d3 i L [.slice A0 xb.f0.length e0, .slice Ai xb.f1.length ei, .int .i64 xb.f2.f0, .slice A7 xb.f2.f1.length e7, .slice A8 xb.f2.f2.length e8, .slice A9 xb.f2.f3.length e9, .int .i64 xb.f2.f4] xb A0 Ai A7 A8 A9 bb o Ao wc.heap.size wi ∧ Kd.N k48 48 wi 0 (fun k => UF w b0 bg k ∧ k ≠ g) (.slice AN o.length cN) (fillM xb.f1 o k) ∧ ∀ gN, AN = some ⟨gN, 0, none⟩ → wc.heap.size ≤ gN))
    case atStart => exact ⟨0, by omega, rfl, hI7⟩
    case round =>
     obtain ⟨k, hk, rfl, hG⟩ := hrel
     clear hI7
     by_cases hlk : k < o.length
     ·have hlki : (k : Int) < o.length := by omega
      have hk0 : (0 : Int) ≤ (k : Int) := by omega
      obtain ⟨gk2, rfl⟩ : ∃ q, gk = q + 1 := ⟨gk - 1, by omega⟩
      have hk1 : k + 1 + gk2 = o.length := by omega
      have hgk2 : gk2 < gk2 + 1 := by omega
      obtain ⟨ao, eA, v1⟩ := Kd.at_int (Kd.F_now hG.out.1.fo) (k : Int) hk0 hlki
      subst eA
      have hab := hY.out.2.2 k hlk
      have hset := fillM_set (B := xb.f1) hlk
      rw [Int.toNat_natCast] at v1
      rw [← rd_get o k hlk] at hset
      obtain ⟨a, ha⟩ : ∃ a : Nat, rd o (k : Int) = (a : Int) := ⟨(rd o (k : Int)).toNat, by omega⟩
      rw [ha] at v1 hab hset
      have ha0 : (0 : Int) ≤ (a : Int) := hab.1
      have ha1 : (a : Int) < (xb.f1.length : Int) := hab.2
      obtain ⟨ad, Aa, ca, eA, s0, s1, s2, s3, s4, s5, s6, s7, la, Fa⟩ := at48F hG.out.1.F1 (a : Int) ha0 ha1
      subst eA
      rw [Int.toNat_natCast] at s0 s1 s2 s3 s4 s5 s6 s7
      obtain ⟨xa, hxa⟩ : ∃ xa, rd_T48 xb.f1 (a : Int) = xa := ⟨_, rfl⟩
      rw [hxa] at s0 s1 s2 s3 s4 s5 s6 s7 la Fa hset
      have y1 : wr.cell? ⟨bb, 1, none⟩ = some (.slice (some ad) xb.f1.length ei) := cell_at hG.out.1.bk rfl
      have hMl : (fillM xb.f1 o k).length = o.length := fillM_len (Nat.le_of_lt hlk)
      obtain ⟨gN, cq, eA, _, _, _⟩ := Kd.N_form hG.out.2.1 (by omega)
      injection eA with eA en ec
      subst eA
      have hgN := hG.out.2.2 gN rfl
      obtain ⟨ce, hEl, hFE⟩ := RowAt.of_N hG.out.2.1 (show k < (fillM xb.f1 o k).length by omega)
      obtain ⟨xo, hxo⟩ : ∃ xo, (fillM xb.f1 o k)[k]'(by omega) = xo := ⟨_, rfl⟩
      rw [hxo] at hFE
      obtain ⟨Ax, cx, rfl, _, _⟩ := k48_openF hFE
      have q0 : wr.cell? ⟨gN, k * 8, none⟩ = some (.int .i64 xo.f0) := hEl.cells.1 0 _ rfl
      have z0 : wr.frozen? ⟨gN, k * 8, none⟩ = false := hEl.cells.2 0
      have q1 : wr.cell? ⟨gN, k * 8 + 1, none⟩ = some (.int .i64 xo.f1) := hEl.cells.1 1 _ rfl
      have z1 : wr.frozen? ⟨gN, k * 8 + 1, none⟩ = false := hEl.cells.2 1
      have q2 : wr.cell? ⟨gN, k * 8 + 2, none⟩ = some (.int .i64 xo.f2) := hEl.cells.1 2 _ rfl
      have z2 : wr.frozen? ⟨gN, k * 8 + 2, none⟩ = false := hEl.cells.2 2
      have q3 : wr.cell? ⟨gN, k * 8 + 3, none⟩ = some (.slice Ax xo.f3.length cx) := hEl.cells.1 3 _ rfl
      have z3 : wr.frozen? ⟨gN, k * 8 + 3, none⟩ = false := hEl.cells.2 3
      have q4 : wr.cell? ⟨gN, k * 8 + 4, none⟩ = some (.int .i64 xo.f4) := hEl.cells.1 4 _ rfl
      have z4 : wr.frozen? ⟨gN, k * 8 + 4, none⟩ = false := hEl.cells.2 4
      have q5 : wr.cell? ⟨gN, k * 8 + 5, none⟩ = some (.int .i64 xo.f5) := hEl.cells.1 5 _ rfl
      have z5 : wr.frozen? ⟨gN, k * 8 + 5, none⟩ = false := hEl.cells.2 5
      have q6 : wr.cell? ⟨gN, k * 8 + 6, none⟩ = some (.int .i64 xo.f6) := hEl.cells.1 6 _ rfl
      have z6 : wr.frozen? ⟨gN, k * 8 + 6, none⟩ = false := hEl.cells.2 6
      have q7 : wr.cell? ⟨gN, k * 8 + 7, none⟩ = some (.bool xo.f7) := hEl.cells.1 7 _ rfl
      have z7 : wr.frozen? ⟨gN, k * 8 + 7, none⟩ = false := hEl.cells.2 7
      have hEs := Aside0.mk (And.intro hEl (And.intro la Fa))
      have hst := Aside0.mk hset
      clear hEl la Fa hFE hxo hxa hMl en ec hset ha hab
      go_upto_region 13 with (fail)
      obtain ⟨w8, hw8⟩ : ∃ w8, (((((((wr.setCell ⟨gN, k * 8, none⟩ (.int .i64 xa.f0)).setCell ⟨gN, k * 8 + 1, none⟩ (.int .i64 xa.f1)).setCell ⟨gN, k * 8 + 2, none⟩ (.int .i64 xa.f2)).setCell ⟨gN, k * 8 + 3, none⟩ (.slice Aa xa.f3.length ca)).setCell ⟨gN, k * 8 + 4, none⟩ (.int .i64 xa.f4)).setCell ⟨gN, k * 8 + 5, none⟩ (.int .i64 xa.f5)).setCell ⟨gN, k * 8 + 6, none⟩ (.int .i64 xa.f6)).setCell ⟨gN, k * 8 + 7, none⟩ (.bool xa.f7) = w8 := ⟨_, rfl⟩
      have hI8 : Aside0 (IFB w x W R AL cL Lat.length b0 bg A1 d1 A2 d2 g x.f6.length d3 i L [.slice A0 xb.f0.length e0, .slice (some ad) xb.f1.length ei, .int .i64 xb.f2.f0, .slice A7 xb.f2.f1.length e7, .slice A8 xb.f2.f2.length e8, .slice A9 xb.f2.f3.length e9, .int .i64 xb.f2.f4] xb A0 (some ad) A7 A8 A9 bb o (some ao) wc.heap.size w8 ∧ Kd.N k48 48 w8 0 (fun k => UF w b0 bg k ∧ k ≠ g) (.slice (some ⟨gN, 0, none⟩) o.length cN) (fillM xb.f1 o (k + 1)) ∧ ∀ gM, (some (⟨gN, 0, none⟩ : Addr)) = some ⟨gM, 0, none⟩ → wc.heap.size ≤ gM) := by
       have hkN : ∀ k, ((UF w b0 bg k ∧ k ≠ g) ∧ k < wc.heap.size) → k ≠ gN := fun k hk => by have := hk.2; omega
       rw [← hw8, ← hst.out]
       refine ⟨((((((((hG.out.1.far hsz5.out hgN (j := k * 8) (.int .i64 xa.f0)).far hsz5.out hgN (j := k * 8 + 1) (.int .i64 xa.f1)).far hsz5.out hgN (j := k * 8 + 2) (.int .i64 xa.f2)).far hsz5.out hgN (j := k * 8 + 3) (.slice Aa xa.f3.length ca)).far hsz5.out hgN (j := k * 8 + 4) (.int .i64 xa.f4)).far hsz5.out hgN (j := k * 8 + 5) (.int .i64 xa.f5)).far hsz5.out hgN (j := k * 8 + 6) (.int .i64 xa.f6)).far hsz5.out hgN (j := k * 8 + 7) (.bool xa.f7)), ?_, hG.out.2.2⟩
       refine Kd.N_mono (((((((((hEs.out.1.put (fun k hk => hk.2) (j := 0) (by decide) (u := .int .i64 xa.f0) (by simp [Value.oneCell'])).put (fun k hk => hk.2) (j := 1) (by decide) (u := .int .i64 xa.f1) (by simp [Value.oneCell'])).put (fun k hk => hk.2) (j := 2) (by decide) (u := .int .i64 xa.f2) (by simp [Value.oneCell'])).put (fun k hk => hk.2) (j := 3) (by decide) (u := .slice Aa xa.f3.length ca) (by simp [Value.oneCell'])).put (fun k hk => hk.2) (j := 4) (by decide) (u := .int .i64 xa.f4) (by simp [Value.oneCell'])).put (fun k hk => hk.2) (j := 5) (by decide) (u := .int .i64 xa.f5) (by simp [Value.oneCell'])).put (fun k hk => hk.2) (j := 6) (by decide) (u := .int .i64 xa.f6) (by simp [Value.oneCell'])).put (fun k hk => hk.2) (j := 7) (by decide) (u := .bool xa.f7) (by simp [Value.oneCell'])).to_N_set (x' := xa) ?_ (fun k hk => hk.2)) (fun k hk => ?_)
       ·exact k48_mkF _ (fun k => (UF w b0 bg k ∧ k ≠ g) ∧ k ≠ gN) xa hEs.out.2.1 (Kd.F_mono (Kd.F_far (Kd.F_far (Kd.F_far (Kd.F_far (Kd.F_far (Kd.F_far (Kd.F_far (Kd.F_far hEs.out.2.2 (p := ⟨gN, k * 8, none⟩) hkN (.int .i64 xa.f0)) (p := ⟨gN, k * 8 + 1, none⟩) hkN (.int .i64 xa.f1)) (p := ⟨gN, k * 8 + 2, none⟩) hkN (.int .i64 xa.f2)) (p := ⟨gN, k * 8 + 3, none⟩) hkN (.slice Aa xa.f3.length ca)) (p := ⟨gN, k * 8 + 4, none⟩) hkN (.int .i64 xa.f4)) (p := ⟨gN, k * 8 + 5, none⟩) hkN (.int .i64 xa.f5)) (p := ⟨gN, k * 8 + 6, none⟩) hkN (.int .i64 xa.f6)) (p := ⟨gN, k * 8 + 7, none⟩) hkN (.bool xa.f7)) (fun k hk => ⟨hk.1, hkN k hk⟩))
       ·rcases hk with hk | hk
        ·exact hk.1
        ·subst hk
         have h1 := hG.out.1.hg
         have h2 := hG.out.1.hbg
         have h3 := hG.out.1.hb0
         exact ⟨⟨.inr (by omega), by omega⟩, by omega⟩
      rw [hw8]
      clear hw8 hG hEs hst v1 s0 s1 s2 s3 s4 s5 s6 s7 y1 q0 z0 q1 z1 q2 z2 q3 z3 q4 z4 q5 z5 q6 z6 q7 z7
      go_wp2_with fail
      go_roundg gk2
      case rel => exact ⟨k + 1, hk1, by go_num, hI8⟩
      case measure => exact hgk2
     ·have hke : k = o.length := by omega
      subst hke
      have hIF := Aside0.mk hG.out.1
      have hNM : Aside0 (Kd.N k48 48 wr 0 (fun k => UF w b0 bg k ∧ k ≠ g) (.slice AN o.length cN) (o.map fun a => rd_T48 xb.f1 a) ∧ o.length ≤ cN) := ⟨by rw [← fillM_end]; exact hG.out.2.1, (Kd.N_reads' hG.out.2.1).2.1⟩
      clear hG
      obtain ⟨u0, u1, u2, u6⟩ := hIF.out.fu.cells
      have x1 : wr.cell? ⟨g, i * 7 + 1, none⟩ = some (.slice Ai xb.f1.length ei) := hIF.out.row.cells.1 1 _ rfl
      have z1 : wr.frozen? ⟨g, i * 7 + 1, none⟩ = false := hIF.out.row.cells.2 1
      go_upto_region 15 with (fail)
      obtain ⟨w8, hw8⟩ : ∃ w8, wr.setCell ⟨g, i * 7 + 1, none⟩ (.slice AN o.length cN) = w8 := ⟨_, rfl⟩
      have hI8 : Aside0 (∃ L, Done W R Lat x.f6 L (i + 1) ∧ FU w x W R AL cL Lat.length b0 bg A1 d1 A2 d2 (.slice (some ⟨g, 0, none⟩) x.f6.length d3) (fun k => UF w b0 bg k ∧ some k ≠ (Value.slice (some ⟨g, 0, none⟩) x.f6.length d3).ownBlock) w8 ∧ Kd.N k31 31 w8 0 (UF w b0 bg) (.slice (some ⟨g, 0, none⟩) x.f6.length d3) L ∧ (∀ g', some (⟨g, 0, none⟩ : Addr) = some ⟨g', 0, none⟩ → b0 + 2 < g' ∧ g' ≠ bg)) := by
       have hg1 := hR1.out.2.2.2.2.2.1
       have hg2 := hR1.out.2.2.2.2.2.2
       have hkg : ∀ k, ((UF w b0 bg k ∧ k ≠ g) ∧ k < wc.heap.size) → k ≠ g := fun k hk => hk.1.2
       have hw0 := hsz5.out
       rw [← hw8]
       refine ⟨L.set i (reord xb o), hR1.out.1.next hR1.out.2.2.2.1 hY.out.1, ?_, ?_, fun g' e => by injection e with e; injection e with e; omega⟩
       ·exact (hIF.out.fu.far (p := ⟨g, i * 7 + 1, none⟩) (by show w.heap.size ≤ g; omega) (by show b0 ≠ g; omega) (by show bg ≠ g; omega) (by show b0 + 2 ≠ g; omega) hkg _).mono (fun k hk => ⟨hk.1.1, fun e => hk.1.2 (by simpa [Value.ownBlock] using e)⟩)
       ·refine Kd.N_mono (((hIF.out.row.mono (ok' := fun k => UF w b0 bg k ∧ k ≠ g) (fun k hk => hk.1)).put (fun k hk => hk.2) (j := 1) (by decide) (u := .slice AN o.length cN) (by simp [Value.oneCell'])).to_N_set (x' := reord xb o) ?_ (fun k hk => hk.2)) (fun k hk => ?_)
        ·have hl : (reord xb o).f1.length = o.length := by simp [reord]
         have hkg' : ∀ k, (UF w b0 bg k ∧ k ≠ g) → k ≠ g := fun k hk => hk.2
         have hN := Kd.F_far (Kd.N_F hNM.out.1) (p := ⟨g, i * 7 + 1, none⟩) hkg' (.slice AN o.length cN)
         have key := k31_mkF (wr.setCell ⟨g, i * 7 + 1, none⟩ (.slice AN o.length cN)) (fun k => UF w b0 bg k ∧ k ≠ g) (reord xb o) hFs.out.1 (Kd.F_mono (Kd.F_far hIF.out.F0 (p := ⟨g, i * 7 + 1, none⟩) hkg _) (fun k hk => hk.1)) (A1 := AN) (c1 := cN) (by rw [hl]; exact hNM.out.2) (by rw [hl]; exact hN) hFs.out.2.2.2.2.1 (Kd.F_mono (Kd.F_far hIF.out.F3 (p := ⟨g, i * 7 + 1, none⟩) hkg _) (fun k hk => hk.1)) hFs.out.2.2.2.2.2.2.1 (Kd.F_mono (Kd.F_far hIF.out.F4 (p := ⟨g, i * 7 + 1, none⟩) hkg _) (fun k hk => hk.1)) hFs.out.2.2.2.2.2.2.2.2.1 (Kd.F_mono (Kd.F_far hIF.out.F5 (p := ⟨g, i * 7 + 1, none⟩) hkg _) (fun k hk => hk.1))
         rw [hl] at key
         exact key
        ·rcases hk with hk | hk
         ·exact hk.1
         ·subst hk; exact ⟨.inr (by omega), hg2⟩
      rw [hw8]
      clear hw8 hIF hNM hR1 hFs hY hU u0 u1 u2 u6 x1 z1
      go_wp2_with fail
      go_roundg gk1
      case rel => exact ⟨i + 1, hi1, by go_num, hI8⟩
      case measure => exact hgk1
   ·obtain ⟨L, hDn, hFU, hNL, hfrs⟩ := hJ.out
    have hie : i = x.f6.length := by omega
    subst hie
    have hSch := Aside0.mk (hDn.sch hX.out.2.2.2.2.2.2.2.2.2.2.2)
    have hbx := hFU.ou.box
    obtain ⟨cs2, hr2, hs2⟩ := hFU.ou.res
    have u0 : wr.cell? ⟨bg, 0, none⟩ = some (.string x.f0) := cell_at hbx rfl
    have u1 : wr.cell? ⟨bg, 1, none⟩ = some (.slice A1 x.f1.length d1) := cell_at hbx rfl
    have u2 : wr.cell? ⟨bg, 2, none⟩ = some (.int .i64 x.f2) := cell_at hbx rfl
    have u3 : wr.cell? ⟨bg, 3, none⟩ = some (.slice A2 x.f3.length d2) := cell_at hbx rfl
    have u4 : wr.cell? ⟨bg, 4, none⟩ = some (.int .i64 x.f4) := cell_at hbx rfl
    have u5 : wr.cell? ⟨bg, 5, none⟩ = some (.int .i64 x.f5) := cell_at hbx rfl
    have u6 : wr.cell? ⟨bg, 6, none⟩ = some (.slice A3 x.f6.length d3) := cell_at hbx rfl
    have hcs2 := arr7 hs2
    obtain ⟨y0, y1, y2, y3, y4, y5, y6, rfl⟩ := arr7 hs2
    have v0 : wr.cell? ⟨b0 + 2, 0, none⟩ = some y0 := cell_at hr2 rfl
    have z0 := free_at hr2 0
    have v1 : wr.cell? ⟨b0 + 2, 1, none⟩ = some y1 := cell_at hr2 rfl
    have z1 := free_at hr2 1
    have v2 : wr.cell? ⟨b0 + 2, 2, none⟩ = some y2 := cell_at hr2 rfl
    have z2 := free_at hr2 2
    have v3 : wr.cell? ⟨b0 + 2, 3, none⟩ = some y3 := cell_at hr2 rfl
    have z3 := free_at hr2 3
    have v4 : wr.cell? ⟨b0 + 2, 4, none⟩ = some y4 := cell_at hr2 rfl
    have z4 := free_at hr2 4
    have v5 : wr.cell? ⟨b0 + 2, 5, none⟩ = some y5 := cell_at hr2 rfl
    have z5 := free_at hr2 5
    have v6 : wr.cell? ⟨b0 + 2, 6, none⟩ = some y6 := cell_at hr2 rfl
    have z6 := free_at hr2 6
    have hr3 := Aside0.mk (And.intro hr2 hcs2)
    clear hbx hr2 hs2 hcs2
    have hE := Aside0.mk (And.intro hFU hNL)
    clear hJ hDn hFU hNL hfrs
    go_wp2
    obtain ⟨w9, hw9⟩ : ∃ w9, ((((((wr.setCell ⟨b0 + 2, 0, none⟩ (.string x.f0)).setCell ⟨b0 + 2, 1, none⟩ (.slice A1 x.f1.length d1)).setCell ⟨b0 + 2, 2, none⟩ (.int .i64 x.f2)).setCell ⟨b0 + 2, 3, none⟩ (.slice A2 x.f3.length d2)).setCell ⟨b0 + 2, 4, none⟩ (.int .i64 x.f4)).setCell ⟨b0 + 2, 5, none⟩ (.int .i64 x.f5)).setCell ⟨b0 + 2, 6, none⟩ (.slice A3 x.f6.length d3) = w9 := ⟨_, rfl⟩
    obtain ⟨hblk, hSF⟩ := sf_end (Lat := Lat) hsz5.out hE.out.1 hE.out.2 hSch.out hr3.out.1 hr3.out.2 hw9
    rw [hw9]
    refine bodyPost_ret (results_cell_row rfl _ _ (b0 + 2) 55 #[.string x.f0, .slice A1 x.f1.length d1, .int .i64 x.f2, .slice A2 x.f3.length d2, .int .i64 x.f4, .int .i64 x.f5, .slice A3 x.f6.length d3] (0, 0) _ rfl hblk Tryd.underlying55 rfl (by kernel_rfl)) rfl ?_
    exact hSF
end Go.Proofs.YtjacphcbiaacnaaDoor
end

