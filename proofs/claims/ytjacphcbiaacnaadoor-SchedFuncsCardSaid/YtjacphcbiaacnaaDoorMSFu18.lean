import Derived.Test.YtjacphcbiaacnaaDoorMSFu17
section
set_option linter.unusedVariables false
set_option linter.unusedSimpArgs false
set_option linter.unusedSectionVars false
namespace Go.Proofs.YtjacphcbiaacnaaDoor
open Go.RowKit Go.Proofs.YtjacphcbiaacnaaDoorW.PrintWords Go.Proofs.YtjacphcbiaacnaaDoorW.PrintMore Go.Proofs.YtjacphcbiaacnaaDoorW.PrintLast Go.Proofs.YtjacphcbiaacnaaDoor.PDigraphTells Mem Sc RowI
def Pre (W R : Int) (Lat : List Int) (xs L : List S31) : Prop := ∀ (j : Nat) (b : S31), j < L.length → xs[j]? = some b → ∃ o y, IsB W R Lat b.f1 o y ∧ L[j]? = some (reord b o)
theorem Pre.start {W R : Int} {Lat : List Int} (xs : List S31) : Pre W R Lat xs [] := fun j b hj => by simp at hj
theorem Pre.next {W R : Int} {Lat : List Int} {xs L : List S31} (h : Pre W R Lat xs L) {b : S31} (hb : xs[L.length]? = some b) {o y : List Int} (hI : IsB W R Lat b.f1 o y) : Pre W R Lat xs (L ++ [reord b o]) := fun j b' hj hb' => by
 rw [List.length_append, List.length_singleton] at hj
 by_cases e : j < L.length
 ·rw [List.getElem?_append_left e]
  exact h j b' e hb'
 ·obtain rfl : j = L.length := by omega
  rw [hb] at hb'
  injection hb' with hb'
  subst hb'
  exact ⟨o, y, hI, by simp⟩
theorem Pre.sch {W R : Int} {Lat : List Int} {xs L : List S31} (hv : validB W R Lat = true) (h : Pre W R Lat xs L) (hl : L.length = xs.length) : IsSch W R Lat xs L :=
 .inr ⟨hv, hl, fun j b hb => h j b (by rw [hl]; exact (List.getElem?_eq_some_iff.1 hb).1) hb⟩
structure RU (w : World) (x : S55) (W R : Int) (AL : Option Addr) (cL nL b0 bg : Nat) (AP : Option Addr) (cP : Nat) (AR : Option Addr) (cR : Nat) (AB : Option Addr) (cB : Nat) (vB : Value) (wi : World) : Prop where
 b : Below w.heap.size w wi
 md : wi.heap[b0]? = some (.cells #[.int .i64 W, .int .i64 R, .slice AL nL cL] 37 (0, 0))
 fb : wi.heap[b0 + 1]? = some (.cells #[.string x.f0, .slice AP x.f1.length cP, .int .i64 x.f2, .slice AR x.f3.length cR, .int .i64 x.f4, .int .i64 x.f5, .slice AB x.f6.length cB] 55 (0, 0))
 res : ∃ y0 y1 y2 y3 y4 y5 y6, wi.heap[b0 + 2]? = some (.cells #[y0, y1, y2, y3, y4, y5, y6] 55 (0, 0))
 gb : wi.heap[bg]? = some (.cells #[.string x.f0, .slice AP x.f1.length cP, .int .i64 x.f2, .slice AR x.f3.length cR, .int .i64 x.f4, .int .i64 x.f5, vB] 55 (0, 0))
 hbg : b0 + 2 < bg
section
variable {w : World} {x : S55} {W R : Int} {AL : Option Addr} {cL nL b0 bg : Nat} {AP : Option Addr} {cP : Nat} {AR : Option Addr} {cR : Nat} {AB : Option Addr} {cB : Nat} {vB vB' : Value} {wi wj : World}
theorem RU.below (h : RU w x W R AL cL nL b0 bg AP cP AR cR AB cB vB wi) (hb : Below wi.heap.size wi wj) : RU w x W R AL cL nL b0 bg AP cP AR cR AB cB vB wj := by
 obtain ⟨y0, y1, y2, y3, y4, y5, y6, hr⟩ := h.res
 exact ⟨h.b.trans (hb.mono h.b.size), (hb.block _ (blk_lt' h.md)).trans h.md, (hb.block _ (blk_lt' h.fb)).trans h.fb, ⟨y0, y1, y2, y3, y4, y5, y6, (hb.block _ (blk_lt' hr)).trans hr⟩, (hb.block _ (blk_lt' h.gb)).trans h.gb, h.hbg⟩
theorem RU.kept {S : Nat → Prop} (h : RU w x W R AL cL nL b0 bg AP cP AR cR AB cB vB wi) (hk : Kp S wi wj) (hS : ∀ k, S k → bg < k) (hw : w.heap.size = b0) : RU w x W R AL cL nL b0 bg AP cP AR cR AB cB vB wj := by
 obtain ⟨y0, y1, y2, y3, y4, y5, y6, hr⟩ := h.res
 have hbg := h.hbg
 have hm : ∀ k, k ≤ bg → k < wi.heap.size → wj.heap[k]? = wi.heap[k]? := fun k hk' hlt => hk.block hlt (fun e => by have := hS k e; omega)
 exact ⟨((Kp.of_below h.b (fun k => w.heap.size ≤ k)).then_ hk (fun k hs => .inl (by have := hS k hs; omega))).belowB (fun k hk => hk) (Nat.le_refl _), (hm _ (by omega) (blk_lt' h.md)).trans h.md, (hm _ (by omega) (blk_lt' h.fb)).trans h.fb, ⟨y0, y1, y2, y3, y4, y5, y6, (hm _ (by omega) (blk_lt' hr)).trans hr⟩, (hm _ (Nat.le_refl _) (blk_lt' h.gb)).trans h.gb, hbg⟩
theorem RU.put6 (h : RU w x W R AL cL nL b0 bg AP cP AR cR AB cB vB wi) (hw : w.heap.size = b0) (u : Value) : RU w x W R AL cL nL b0 bg AP cP AR cR AB cB u (wi.setCell ⟨bg, 6, none⟩ u) := by
 obtain ⟨y0, y1, y2, y3, y4, y5, y6, hr⟩ := h.res
 have hbg := h.hbg
 have hm : ∀ k, k ≠ bg → (wi.setCell ⟨bg, 6, none⟩ u).heap[k]? = wi.heap[k]? := fun k hk => Below.heap_setCell wi ⟨bg, 6, none⟩ u k hk
 exact ⟨((Kp.of_below h.b (fun k => w.heap.size ≤ k)).setCell (p := ⟨bg, 6, none⟩) (.inl (by show w.heap.size ≤ bg; omega)) u).belowB (fun k hk => hk) (Nat.le_refl _), (hm _ (by omega)).trans h.md, (hm _ (by omega)).trans h.fb, ⟨y0, y1, y2, y3, y4, y5, y6, (hm _ (by omega)).trans hr⟩, set_at h.gb u, hbg⟩
theorem RU.cells (h : RU w x W R AL cL nL b0 bg AP cP AR cR AB cB vB wi) : wi.cell? ⟨b0, 0, none⟩ = some (.int .i64 W) ∧ wi.cell? ⟨b0, 1, none⟩ = some (.int .i64 R) ∧ wi.cell? ⟨b0, 2, none⟩ = some (.slice AL nL cL) ∧ wi.cell? ⟨b0 + 1, 6, none⟩ = some (.slice AB x.f6.length cB) ∧ wi.cell? ⟨bg, 6, none⟩ = some vB ∧ wi.frozen? ⟨bg, 6, none⟩ = false := ⟨cell_at h.md rfl, cell_at h.md rfl, cell_at h.md rfl, cell_at h.fb rfl, cell_at h.gb rfl, free_at h.gb 6⟩
set_option maxRecDepth 100000 in
set_option maxHeartbeats 8000000 in
theorem rf_end {Lat : List Int} {Rs : List S31} {A3 : Option Addr} {d3 : Nat} {w9 : World} (hb0 : w.heap.size = b0) (h : RU w x W R AL cL nL b0 bg AP cP AR cR AB cB (.slice A3 Rs.length d3) wi) (hN : Kd.N k31 31 wi 0 (UF w b0 bg) (.slice A3 Rs.length d3) Rs) (hI : IsSch W R Lat x.f6 Rs) (gP : Kd.C (Kd.int .i64) w AP x.f1.length x.f1) (hP : x.f1.length ≤ cP) (gR : Kd.C (Kd.int .i64) w AR x.f3.length x.f3) (hR : x.f3.length ≤ cR)
  (hw9 : ((((((wi.setCell ⟨b0 + 2, 0, none⟩ (.string x.f0)).setCell ⟨b0 + 2, 1, none⟩ (.slice AP x.f1.length cP)).setCell ⟨b0 + 2, 2, none⟩ (.int .i64 x.f2)).setCell ⟨b0 + 2, 3, none⟩ (.slice AR x.f3.length cR)).setCell ⟨b0 + 2, 4, none⟩ (.int .i64 x.f4)).setCell ⟨b0 + 2, 5, none⟩ (.int .i64 x.f5)).setCell ⟨b0 + 2, 6, none⟩ (.slice A3 Rs.length d3) = w9) :
  w9.heap[b0 + 2]? = some (.cells #[.string x.f0, .slice AP x.f1.length cP, .int .i64 x.f2, .slice AR x.f3.length cR, .int .i64 x.f4, .int .i64 x.f5, .slice A3 Rs.length d3] 55 (0, 0)) ∧
  SF w W R Lat x (.returned (.agg #[.string x.f0, .slice AP x.f1.length cP, .int .i64 x.f2, .slice AR x.f3.length cR, .int .i64 x.f4, .int .i64 x.f5, .slice A3 Rs.length d3])) w9 := by
 obtain ⟨y0, y1, y2, y3, y4, y5, y6, hr⟩ := h.res
 have kp : Kp (fun k => k = b0 + 2) wi w9 := by
  rw [← hw9]
  exact (((((((Kp.refl (fun k => k = b0 + 2) wi).setCell (p := ⟨b0 + 2, 0, none⟩) (.inl rfl) _).setCell (p := ⟨b0 + 2, 1, none⟩) (.inl rfl) _).setCell (p := ⟨b0 + 2, 2, none⟩) (.inl rfl) _).setCell (p := ⟨b0 + 2, 3, none⟩) (.inl rfl) _).setCell (p := ⟨b0 + 2, 4, none⟩) (.inl rfl) _).setCell (p := ⟨b0 + 2, 5, none⟩) (.inl rfl) _).setCell (p := ⟨b0 + 2, 6, none⟩) (.inl rfl) _
 have hm : ∀ k, k ≠ b0 + 2 → k < wi.heap.size → w9.heap[k]? = wi.heap[k]? := fun k hk hlt => kp.block hlt hk
 have hB9 : Below w.heap.size w w9 := ((Kp.of_below h.b (fun k => w.heap.size ≤ k)).then_ kp (fun k hk => .inr (by omega))).belowB (fun k hk => hk) (Nat.le_refl _)
 refine ⟨by rw [← hw9]; exact set_at (set_at (set_at (set_at (set_at (set_at (set_at hr _) _) _) _) _) _) _, ?_⟩
 have hNr := Kd.N_reads' (Kd.N_step hN (w1 := w9) (fun k hk hlt => hm k (hk.ne hb0).2.2.1 hlt))
 exact ⟨Rs, AP, cP, AR, cR, A3, d3, hI, rfl, hP, hR, hNr.2.1, Kd.C_below gP hB9, Kd.C_below gR hB9, hNr.2.2, hB9⟩
end
theorem addb (a : Addr) (i : Nat) : (a.add i).block = a.block := by unfold Addr.add; split <;> rfl
theorem F_blk48 {W : World} {m n : Nat} {ad : Addr} {xs : List S48} (h : Kd.F k48 W (fun k => k < m) (some ad) n xs) (i : Int) (h0 : 0 ≤ i) (h1 : i < n) : ad.block < m := by
 have hF : Kd.C k48 { W with heap := W.heap.extract 0 m } (some ad) n xs := h { W with heap := W.heap.extract 0 m } (fun k hk hlt => by
  show (W.heap.extract 0 m)[k]? = W.heap[k]?
  rw [Array.getElem?_extract]
  simp only [Nat.sub_zero, Nat.zero_add]
  rw [if_pos (by omega)])
 obtain ⟨ad', _, _, e, s0, _⟩ := at48F (Kd.C_F heap48 hF) i h0 h1
 injection e with e
 subst e
 have h2 := World.block_lt_of_cell? _ _ s0
 rw [show (ad.add (i.toNat * 8)).block = ad.block from addb _ _] at h2
 have h3 : (({ W with heap := W.heap.extract 0 m } : World).heap.size) ≤ m := by
  show (W.heap.extract 0 m).size ≤ m
  rw [Array.size_extract]
  omega
 exact Nat.lt_of_lt_of_le h2 h3
theorem kp_cell {S : Nat → Prop} {wi wj : World} (h : Kp S wi wj) {p : Addr} {v : Value} (hc : wi.cell? p = some v) (hn : ¬ S p.block) : wj.cell? p = some v :=
 (World.cell?_of_block (w := wi) (h.block (World.block_lt_of_cell? _ _ hc) hn)).trans hc
structure IR (w : World) (x : S55) (W R : Int) (AL : Option Addr) (cL nL b0 bg : Nat) (AP : Option Addr) (cP : Nat) (AR : Option Addr) (cR : Nat) (AB : Option Addr) (cB : Nat) (vB : Value) (bt m : Nat) (c7 : List Value) (d0 d2 d3 d4 d5 d6 : Value) (L : List S31) (o : List Int) (Ao Ai : Option Addr) (B : List S48) (vI : Value) (wi : World) : Prop where
 ru : RU w x W R AL cL nL b0 bg AP cP AR cR AB cB vB wi
 b7 : wi.heap[bt]? = some (.cells c7.toArray 31 (0, 0))
 b8 : wi.heap[bt + 1]? = some (.cells #[d0, vI, d2, d3, d4, d5, d6] 31 (0, 0))
 nl : Kd.N k31 31 wi 0 (fun k => UF w b0 bg k ∧ k < bt) vB L
 fo : Kd.F (Kd.int .i64) wi (fun k => bt + 1 < k ∧ k < m) Ao o.length o
 F1 : Kd.F k48 wi (fun k => k < w.heap.size) Ai B.length B
 hw : w.heap.size = b0
 hbt : bg < bt
 hm : bt + 1 < m
 hsz : m ≤ wi.heap.size
section
variable {w : World} {x : S55} {W R : Int} {AL : Option Addr} {cL nL b0 bg : Nat} {AP : Option Addr} {cP : Nat} {AR : Option Addr} {cR : Nat} {AB : Option Addr} {cB : Nat} {vB : Value} {bt m : Nat} {c7 : List Value} {d0 d2 d3 d4 d5 d6 : Value} {L : List S31} {o : List Int} {Ao Ai : Option Addr} {B : List S48} {vI : Value} {wi wj : World}
theorem IR.kept {S : Nat → Prop} (h : IR w x W R AL cL nL b0 bg AP cP AR cR AB cB vB bt m c7 d0 d2 d3 d4 d5 d6 L o Ao Ai B vI wi) (hk : Kp S wi wj) (hS : ∀ k, S k → m ≤ k) : IR w x W R AL cL nL b0 bg AP cP AR cR AB cB vB bt m c7 d0 d2 d3 d4 d5 d6 L o Ao Ai B vI wj := by
 have h1 := h.hw
 have h2 := h.hbt
 have h3 := h.hm
 have h4 := h.ru.hbg
 refine ⟨h.ru.kept hk (fun k hs => by have := hS k hs; omega) h1, hk.blk h.b7 (fun e => by have := hS _ e; omega), hk.blk h.b8 (fun e => by have := hS _ e; omega), Kd.N_step h.nl (fun k hk' hlt => hk.block hlt (fun e => by have := hS k e; have := hk'.2; omega)), Kd.F_step h.fo (fun k hk' hlt => hk.block hlt (fun e => by have := hS k e; omega)), Kd.F_step h.F1 (fun k hk' hlt => hk.block hlt (fun e => by have := hS k e; omega)), h1, h2, h3, Nat.le_trans h.hsz hk.size⟩
theorem IR.put (h : IR w x W R AL cL nL b0 bg AP cP AR cR AB cB vB bt m c7 d0 d2 d3 d4 d5 d6 L o Ao Ai B vI wi) (u : Value) : IR w x W R AL cL nL b0 bg AP cP AR cR AB cB vB bt m c7 d0 d2 d3 d4 d5 d6 L o Ao Ai B u (wi.setCell ⟨bt + 1, 1, none⟩ u) := by
 have h1 := h.hw
 have h2 := h.hbt
 have h3 := h.hm
 have h4 := h.ru.hbg
 have hk : Kp (fun k => k = bt + 1) wi (wi.setCell ⟨bt + 1, 1, none⟩ u) := (Kp.refl (fun k => k = bt + 1) wi).setCell (p := ⟨bt + 1, 1, none⟩) (.inl rfl) u
 exact ⟨h.ru.kept hk (fun k hs => by omega) h1, hk.blk h.b7 (by omega), set_at h.b8 u, Kd.N_step h.nl (fun k hk' hlt => hk.block hlt (fun e => by have := hk'.2; omega)), Kd.F_step h.fo (fun k hk' hlt => hk.block hlt (fun e => by omega)), Kd.F_step h.F1 (fun k hk' hlt => hk.block hlt (fun e => by omega)), h1, h2, h3, Nat.le_trans h.hsz hk.size⟩
end
theorem blk_done {w : World} {x : S55} {W R : Int} {AL : Option Addr} {cL nL b0 bg : Nat} {AP : Option Addr} {cP : Nat} {AR : Option Addr} {cR : Nat} {AB : Option Addr} {cB : Nat} {vB v7 : Value} {wi w7 : World} {Ls : List S31} (h : RU w x W R AL cL nL b0 bg AP cP AR cR AB cB vB wi) (hw : w.heap.size = b0) (ho : ∀ g, vB.ownBlock = some g → bg < g) (hg : wi.grownBy w7 vB.ownBlock) (hat : v7.ownBlock = vB.ownBlock ∨ ∃ b, v7.ownBlock = some b ∧ wi.heap.size ≤ b) (hN : Kd.N k31 31 w7 0 (UF w b0 bg) v7 Ls) :
  RU w x W R AL cL nL b0 bg AP cP AR cR AB cB vB w7 ∧ ∃ A c, v7 = .slice A Ls.length c ∧ RU w x W R AL cL nL b0 bg AP cP AR cR AB cB v7 (w7.setCell ⟨bg, 6, none⟩ v7) ∧ Kd.N k31 31 (w7.setCell ⟨bg, 6, none⟩ v7) 0 (UF w b0 bg) v7 Ls ∧ ∀ g, v7.ownBlock = some g → bg < g := by
 have hk : Kp (fun k => bg < k) wi w7 := (Kp.refl (fun k => bg < k) wi).grown hg (fun k hk => .inl (ho k hk))
 have h7 := h.kept hk (fun k hk => hk) hw
 obtain ⟨A, c, ev⟩ := Kd.N_slice hN
 refine ⟨h7, A, c, ev, h7.put6 hw v7, Kd.N_far hN (p := ⟨bg, 6, none⟩) (fun k hk => (hk.ne hw).2.2.2) v7, fun g hg' => ?_⟩
 rcases hat with hat | ⟨b, hb, hle⟩
 ·exact ho g (hat ▸ hg')
 ·rw [hg'] at hb
  injection hb with hb
  have := blk_lt' h.gb
  omega
set_option maxRecDepth 100000 in
set_option maxHeartbeats 8000000 in
theorem rfn_any {w : World} {W R : Int} {AL : Option Addr} {cL : Nat} {Lat : List Int} {x : S55} {AP : Option Addr} {cP : Nat} {AR : Option Addr} {cR : Nat} {AB : Option Addr} {cB : Nat} (gL : Kd.C (Kd.int .i64) w AL Lat.length Lat) (hL : Lat.length ≤ cL) (hLl : Lat.length < 1000000000) (gP : Kd.C (Kd.int .i64) w AP x.f1.length x.f1) (hP : x.f1.length ≤ cP) (gR : Kd.C (Kd.int .i64) w AR x.f3.length x.f3) (hR : x.f3.length ≤ cR) (gB : Kd.C k31 w AB x.f6.length x.f6) (hB : x.f6.length ≤ cB) (hz : szF x) (hsm : ∀ b ∈ x.f6, sml b.f1) :
  Calls Tryd.prog 25 #[.agg #[.int .i64 W, .int .i64 R, .slice AL Lat.length cL], .agg #[.string x.f0, .slice AP x.f1.length cP, .int .i64 x.f2, .slice AR x.f3.length cR, .int .i64 x.f4, .int .i64 x.f5, .slice AB x.f6.length cB]] w (SF w W R Lat x) := by
 obtain ⟨q, hq⟩ := (rvalid_f W R Lat hLl).get
 have hV := Aside0.mk (fun (W1 : World) (e1 : Below w.heap.size w W1) => burnishref50_ValidModel.calls q W R AL cL Lat _ W1 (Kd.C_below gL e1) hL hq)
 obtain ⟨vb, hvb⟩ : ∃ vb, validB W R Lat = vb := ⟨_, rfl⟩
 rw [hvb] at hV
 have hX := Aside0.mk (And.intro gL (And.intro hL (And.intro hLl (And.intro gP (And.intro hP (And.intro gR (And.intro hR (And.intro (Kd.C_F heap31 gB) (And.intro hB (And.intro hz (And.intro hsm hvb)))))))))))
 clear gP hP gR hR gB hB hz gL hL hLl hsm hvb hq
 go_enter Tryd.func25, Tryd.ntmps25
 go_upto_region 2 with (fail)
 obtain ⟨w3, hw3⟩ : ∃ w3, ((w.alloc (.cells #[.int .i64 W, .int .i64 R, .slice AL Lat.length cL] 37 (0, 0))).alloc (.cells #[.string x.f0, .slice AP x.f1.length cP, .int .i64 x.f2, .slice AR x.f3.length cR, .int .i64 x.f4, .int .i64 x.f5, .slice AB x.f6.length cB] 55 (0, 0))).alloc (.cells #[.string { data := #[] }, .slice none 0 0, .int .i64 0, .slice none 0 0, .int .i64 0, .int .i64 0, .slice none 0 0] 55 (0, 0)) = w3 := ⟨_, rfl⟩
 obtain ⟨b0, hb0⟩ : ∃ b0, w.heap.size = b0 := ⟨_, rfl⟩
 have h3 := box_three hw3 hb0
 rw [hw3, hb0]
 rw [show b0 + 1 + 1 + 1 = b0 + 3 from rfl, show b0 + 1 + 1 = b0 + 2 from rfl]
 clear hw3
 obtain ⟨B3, m3, f3, z3, hs3⟩ := h3
 obtain ⟨bg, hbg⟩ : ∃ bg, b0 + 3 = bg := ⟨_, rfl⟩
 obtain ⟨w4, hw4⟩ : ∃ w4, w3.alloc (.cells #[.string x.f0, .slice AP x.f1.length cP, .int .i64 x.f2, .slice AR x.f3.length cR, .int .i64 x.f4, .int .i64 x.f5, .slice AB x.f6.length cB] 55 (0, 0)) = w4 := ⟨_, rfl⟩
 have B4 : Below w3.heap.size w3 w4 := by rw [← hw4]; exact below_alloc (Below.refl _ w3) _
 have H4 : Aside0 (RU w x W R AL cL Lat.length b0 bg AP cP AR cR AB cB (.slice AB x.f6.length cB) w4) := ⟨bl1 B3 B4, (B4.block _ (blk_lt' m3)).trans m3, (B4.block _ (blk_lt' f3)).trans f3, ⟨_, _, _, _, _, _, _, (B4.block _ (blk_lt' z3)).trans z3⟩, by rw [← hw4, ← hbg, ← hs3]; exact heap_alloc_new w3 _, by omega⟩
 have hw0 := Aside0.mk hb0
 rw [hw4, hbg]
 clear hw4 hbg B4 B3 m3 f3 z3 hs3 hb0
 obtain ⟨_, _, _, _, u5, u6⟩ := H4.out.cells
 go_upto_region 3 with (fail)
 obtain ⟨w5, hw5⟩ : ∃ w5, w4.setCell ⟨bg, 6, none⟩ (.slice none 0 0) = w5 := ⟨_, rfl⟩
 have H5 : Aside0 (RU w x W R AL cL Lat.length b0 bg AP cP AR cR AB cB (.slice none 0 0) w5) := ⟨by rw [← hw5]; exact H4.out.put6 hw0.out _⟩
 rw [hw5]
 clear hw5 H4 u5 u6
 obtain ⟨_, _, _, u3, _, _⟩ := H5.out.cells
 have hbnB : x.f6.length ≤ 140737488355328 := by have := hX.out.2.2.2.2.2.2.2.2.2.1.2.2.1; omega
 have hI0 : Aside0 (∃ (L : List S31) (AV : Option Addr) (cV : Nat), L.length = 0 ∧ (vb = true → Pre W R Lat x.f6 L) ∧ (vb = false → L = x.f6.take 0) ∧ RU w x W R AL cL Lat.length b0 bg AP cP AR cR AB cB (.slice AV L.length cV) w5 ∧ Kd.N k31 31 w5 0 (UF w b0 bg) (.slice AV L.length cV) L ∧ ∀ g, (Value.slice AV L.length cV).ownBlock = some g → bg < g) := ⟨[], none, 0, rfl, fun _ => Pre.start _, fun _ => rfl, H5.out, Kd.N_nil _ _ _ _ _, fun g hg => by simp [Value.ownBlock] at hg⟩
 go_wp2_with fail
 clear u3 H5
 go_loopg [18] x.f6.length (fun q v wi => ∃ i : Nat, i + q = x.f6.length ∧ v = .int .i64 (i : Int) ∧ Aside0 (∃ (L : List S31) (AV : Option Addr) (cV : Nat), L.length = i ∧ (vb = true → Pre W R Lat x.f6 L) ∧ (vb = false → L = x.f6.take i) ∧ RU w x W R AL cL Lat.length b0 bg AP cP AR cR AB cB (.slice AV L.length cV) wi ∧ Kd.N k31 31 wi 0 (UF w b0 bg) (.slice AV L.length cV) L ∧ ∀ g, (Value.slice AV L.length cV).ownBlock = some g → bg < g))
 case atStart => exact ⟨0, by omega, rfl, hI0⟩
 case round =>
  obtain ⟨i, hi, rfl, hJ⟩ := hrel
  clear hI0
  by_cases hlt : i < x.f6.length
  ·have hlti : (i : Int) < x.f6.length := by omega
   have hi0 : (0 : Int) ≤ (i : Int) := by omega
   obtain ⟨gk1, rfl⟩ : ∃ q, gk = q + 1 := ⟨gk - 1, by omega⟩
   have hi1 : i + 1 + gk1 = x.f6.length := by omega
   have hgk1 : gk1 < gk1 + 1 := by omega
   obtain ⟨L, AV, cV, hLl, hT1, hT2, hRU, hNL, hOw⟩ := hJ.out
   replace hOw := Aside0.mk hOw
   have hbl : (L.length + 1) * 136 ≤ 140737488355328 := by have := hX.out.2.2.2.2.2.2.2.2.2.1.2.2.1; omega
   replace hbl := Aside0.mk hbl
   have hxb : x.f6[i]? = some x.f6[i] := List.getElem?_eq_getElem hlt
   have hsb := hX.out.2.2.2.2.2.2.2.2.2.2.1 x.f6[i] (List.getElem_mem hlt)
   obtain ⟨af, c, eA, _, hFK, hcc0, _⟩ := Kd.F_get (Kd.F_below hX.out.2.2.2.2.2.2.2.1 hRU.b) z31 (i : Int) hi0 hlti
   subst eA
   rw [Int.toNat_natCast, show x.f6.getD i z31 = x.f6[i] by simp [List.getD_eq_getElem?_getD, hlt]] at hFK
   obtain ⟨xb, hxe⟩ : ∃ xb, x.f6[i] = xb := ⟨_, rfl⟩
   rw [hxe] at hFK hsb hxb
   obtain ⟨A0, e0, Ai, ei, A7, e7, A8, e8, A9, e9, rfl, l0, F0, l1, F1, l3, F3, l4, F4, l5, F5⟩ := k31_openF hFK
   have hcc : ∀ j u, [Value.slice A0 xb.f0.length e0, .slice Ai xb.f1.length ei, .int .i64 xb.f2.f0, .slice A7 xb.f2.f1.length e7, .slice A8 xb.f2.f2.length e8, .slice A9 xb.f2.f3.length e9, .int .i64 xb.f2.f4][j]? = some u → wr.cell? (af.add (i * 7 + j)) = some u := by rw [Int.toNat_natCast] at hcc0; exact hcc0
   have x0 : wr.cell? (af.add (i * 7)) = some (.slice A0 xb.f0.length e0) := hcc 0 _ rfl
   have x1 : wr.cell? ⟨(af.add (i * 7)).block, (af.add (i * 7)).off + 1, none⟩ = some (.slice Ai xb.f1.length ei) := by rw [← add_field _ _ 1 (by omega)]; exact hcc 1 _ rfl
   have x2 : wr.cell? ⟨(af.add (i * 7)).block, (af.add (i * 7)).off + 2, none⟩ = some (.int .i64 xb.f2.f0) := by rw [← add_field _ _ 2 (by omega)]; exact hcc 2 _ rfl
   have x3 : wr.cell? ⟨(af.add (i * 7)).block, (af.add (i * 7)).off + 3, none⟩ = some (.slice A7 xb.f2.f1.length e7) := by rw [← add_field _ _ 3 (by omega)]; exact hcc 3 _ rfl
   have x4 : wr.cell? ⟨(af.add (i * 7)).block, (af.add (i * 7)).off + 4, none⟩ = some (.slice A8 xb.f2.f2.length e8) := by rw [← add_field _ _ 4 (by omega)]; exact hcc 4 _ rfl
   have x5 : wr.cell? ⟨(af.add (i * 7)).block, (af.add (i * 7)).off + 5, none⟩ = some (.slice A9 xb.f2.f3.length e9) := by rw [← add_field _ _ 5 (by omega)]; exact hcc 5 _ rfl
   have x6 : wr.cell? ⟨(af.add (i * 7)).block, (af.add (i * 7)).off + 6, none⟩ = some (.int .i64 xb.f2.f4) := by rw [← add_field _ _ 6 (by omega)]; exact hcc 6 _ rfl
   have hO := Aside0.mk (And.intro hLl (And.intro hT1 (And.intro hT2 (And.intro hRU (And.intro hNL (And.intro hxb hsb))))))
   have hFs := Aside0.mk (And.intro l0 (And.intro F0 (And.intro l1 (And.intro F1 (And.intro l3 (And.intro F3 (And.intro l4 (And.intro F4 (And.intro l5 F5)))))))))
   have hFl : Aside0 (∀ (W1 : World) (okq : Nat → Prop), Below w.heap.size w W1 → (∀ k, k < w.heap.size → okq k) → ∀ {α : Type} {d : Kd α} {A : Option Addr} {n : Nat} {xs : List α}, Kd.F d wr (fun k => k < w.heap.size) A n xs → Kd.F d W1 okq A n xs) := ⟨fun W1 okq e1 e2 {_} {_} {_} {_} {_} h => Kd.F_mono (Kd.F_step h (fun k hk hlt => (e1.block k hk).trans (hO.out.2.2.2.1.b.block k hk).symm)) e2⟩
   clear hJ hLl hT1 hT2 hRU hNL hxb hsb hFK hcc hcc0 hxe l0 F0 l1 F1 l3 F3 l4 F4 l5 F5
   go_upto_region 7 with (fail)
   obtain ⟨bt, hbt⟩ : ∃ bt, wr.heap.size = bt := ⟨_, rfl⟩
   obtain ⟨wt, hwt⟩ : ∃ wt, (wr.alloc (.cells #[.slice A0 xb.f0.length e0, .slice Ai xb.f1.length ei, .int .i64 xb.f2.f0, .slice A7 xb.f2.f1.length e7, .slice A8 xb.f2.f2.length e8, .slice A9 xb.f2.f3.length e9, .int .i64 xb.f2.f4] 31 (0, 0))).alloc (.cells #[.slice A0 xb.f0.length e0, .slice Ai xb.f1.length ei, .int .i64 xb.f2.f0, .slice A7 xb.f2.f1.length e7, .slice A8 xb.f2.f2.length e8, .slice A9 xb.f2.f3.length e9, .int .i64 xb.f2.f4] 31 (0, 0)) = wt := ⟨_, rfl⟩
   obtain ⟨Bt, g7, g8⟩ := box_two hwt hbt
   rw [hwt, hbt]
   have hszbg : Aside0 (bg < bt) := ⟨by rw [← hbt]; exact blk_lt' hO.out.2.2.2.1.gb⟩
   have hU := Aside0.mk (And.intro Bt (And.intro g7 (And.intro g8 hbt)))
   clear hwt hbt Bt g7 g8 x0 x1 x2 x3 x4 x5 x6
   obtain ⟨u0, u1, u2, _, _, _⟩ := (hO.out.2.2.2.1.below hU.out.1).cells
   have hBt := Aside0.mk (hO.out.2.2.2.1.b.trans (hU.out.1.mono hO.out.2.2.2.1.b.size))
   go_wp2_with fail
   refine (hV.out wt hBt.out).mono ?_
   rintro e wv ⟨rfl, Bv⟩
   have hBv := Aside0.mk (And.intro (bl1 hU.out.1 Bv) (hBt.out.trans (Bv.mono hBt.out.size)))
   have g7 := (Bv.block _ (blk_lt' hU.out.2.1)).trans hU.out.2.1
   have g8 := (Bv.block _ (blk_lt' hU.out.2.2.1)).trans hU.out.2.2.1
   have hsz8 : Aside0 (bt + 1 < wv.heap.size) := ⟨blk_lt' g8⟩
   clear Bv hBt u0 u1 u2
   cases vb with
   | false =>
    have hRv := hO.out.2.2.2.1.below hBv.out.1
    obtain ⟨_, _, _, _, u5, u6⟩ := hRv.cells
    have p0 : wv.cell? ⟨bt + 1, 0, none⟩ = some (.slice A0 xb.f0.length e0) := cell_at g8 rfl
    have p1 : wv.cell? ⟨bt + 1, 1, none⟩ = some (.slice Ai xb.f1.length ei) := cell_at g8 rfl
    have p2 : wv.cell? ⟨bt + 1, 2, none⟩ = some (.int .i64 xb.f2.f0) := cell_at g8 rfl
    have p3 : wv.cell? ⟨bt + 1, 3, none⟩ = some (.slice A7 xb.f2.f1.length e7) := cell_at g8 rfl
    have p4 : wv.cell? ⟨bt + 1, 4, none⟩ = some (.slice A8 xb.f2.f2.length e8) := cell_at g8 rfl
    have p5 : wv.cell? ⟨bt + 1, 5, none⟩ = some (.slice A9 xb.f2.f3.length e9) := cell_at g8 rfl
    have p6 : wv.cell? ⟨bt + 1, 6, none⟩ = some (.int .i64 xb.f2.f4) := cell_at g8 rfl
    have hbl9 : ∀ k, k < w.heap.size → k < w.heap.size := fun k hk => hk
    have key := k31_mkF wv (fun k => k < w.heap.size) xb hFs.out.1 (hFl.out _ _ hRv.b hbl9 hFs.out.2.1) hFs.out.2.2.1 (hFl.out _ _ hRv.b hbl9 hFs.out.2.2.2.1) hFs.out.2.2.2.2.1 (hFl.out _ _ hRv.b hbl9 hFs.out.2.2.2.2.2.1) hFs.out.2.2.2.2.2.2.1 (hFl.out _ _ hRv.b hbl9 hFs.out.2.2.2.2.2.2.2.1) hFs.out.2.2.2.2.2.2.2.2.1 (hFl.out _ _ hRv.b hbl9 hFs.out.2.2.2.2.2.2.2.2.2)
    have hkp : ∀ k, k < w.heap.size → UF w b0 bg k ∧ some k ≠ (Value.slice AV L.length cV).ownBlock := fun k hk => by
     have h1 := hw0.out
     have h4 := hRv.hbg
     refine ⟨⟨.inl hk, by omega⟩, fun e => ?_⟩
     have h5 := hOw.out k e.symm
     omega
    have hE := Aside0.mk (And.intro hRv (And.intro (Kd.N_below hO.out.2.2.2.2.1 hBv.out.1) (And.intro key hkp)))
    clear hRv hbl9 key hkp g7 g8
    go_upto_region 16 with (at_builtin; refine Kd.N_append k31 (w0 := wv) (W := wv) 0 (by rfl) (.tmp 50) (.tmp 52) 53 31 (.agg #[.slice none 0 0, .slice none 0 0, .int .i64 0, .slice none 0 0, .slice none 0 0, .slice none 0 0, .int .i64 0]) 136 (by rfl) Tryd.underlying53 infoZB rfl (by decide) (by decide) (.slice AV L.length cV) L xb [.slice A0 xb.f0.length e0, .slice Ai xb.f1.length ei, .int .i64 xb.f2.f0, .slice A7 xb.f2.f1.length e7, .slice A8 xb.f2.f2.length e8, .slice A9 xb.f2.f3.length e9, .int .i64 xb.f2.f4] (UF w b0 bg) (fun k => k < w.heap.size) (by rfl) (by rfl) hE.out.2.2.1 (hE.out.2.2.2) (fun k hk => ⟨.inr (by have := blk_lt' hE.out.1.gb; have := hE.out.1.hbg; have := blk_lt' hE.out.1.gb; omega), by have := blk_lt' hE.out.1.gb; omega⟩) hE.out.2.1 ((Kp.refl (fun _ => False) wv).belowB (fun _ h => h.elim) (Nat.zero_le _)) (Nat.zero_le _) hbl.out ?_; intro v7 w7 hN7 _ hg7 hat7; obtain ⟨hR7, A9', c9', rfl, hRp, hNp, hOp⟩ := blk_done hE.out.1 hw0.out hOw.out hg7 hat7 hN7; obtain ⟨_, _, _, _, zz5, zz6⟩ := hR7.cells; have hD7 := Aside0.mk (And.intro hRp (And.intro hNp hOp)); clear hN7 hg7 hat7 hR7 hRp hNp hOp)
    have e9 : (L ++ [xb]).length = L.length + 1 := by rw [List.length_append, List.length_singleton]
    obtain ⟨w8, hw8⟩ : ∃ w8, w7.setCell ⟨bg, 6, none⟩ (.slice A9' (L.length + 1) c9') = w8 := ⟨_, rfl⟩
    have hK8 : Aside0 (∃ (L : List S31) (AV : Option Addr) (cV : Nat), L.length = i + 1 ∧ (false = true → Pre W R Lat x.f6 L) ∧ (false = false → L = x.f6.take (i + 1)) ∧ RU w x W R AL cL Lat.length b0 bg AP cP AR cR (some af) cB (.slice AV L.length cV) w8 ∧ Kd.N k31 31 w8 0 (UF w b0 bg) (.slice AV L.length cV) L ∧ ∀ g, (Value.slice AV L.length cV).ownBlock = some g → bg < g) := by
     rw [← hw8]
     have h9 := hD7.out
     rw [e9] at h9
     exact ⟨L ++ [xb], A9', c9', (by rw [e9, hO.out.1]), (fun h => by cases h), (fun _ => by rw [List.take_add_one, hO.out.2.2.2.2.2.1, ← hO.out.2.2.1 (by trivial)]; rfl), (by rw [e9]; exact h9)⟩
    rw [hw8]
    clear hw8 e9 hD7 hE hFl hFs hO hOw hbl hU hsz8 hszbg p0 p1 p2 p3 p4 p5 p6 u5 u6 zz5 zz6 hBv
    go_wp2_with fail
    go_roundg gk1
    case rel => exact ⟨i + 1, hi1, by go_num, hK8⟩
    case measure => exact hgk1
   | true =>
    obtain ⟨u0, u1, u2, _, _, _⟩ := (hO.out.2.2.2.1.below hBv.out.1).cells
    have y0 : wv.cell? ⟨bt, 0, none⟩ = some (.slice A0 xb.f0.length e0) := cell_at g7 rfl
    have y1 : wv.cell? ⟨bt, 1, none⟩ = some (.slice Ai xb.f1.length ei) := cell_at g7 rfl
    have y2 : wv.cell? ⟨bt, 2, none⟩ = some (.int .i64 xb.f2.f0) := cell_at g7 rfl
    have y3 : wv.cell? ⟨bt, 3, none⟩ = some (.slice A7 xb.f2.f1.length e7) := cell_at g7 rfl
    have y4 : wv.cell? ⟨bt, 4, none⟩ = some (.slice A8 xb.f2.f2.length e8) := cell_at g7 rfl
    have y5 : wv.cell? ⟨bt, 5, none⟩ = some (.slice A9 xb.f2.f3.length e9) := cell_at g7 rfl
    have y6 : wv.cell? ⟨bt, 6, none⟩ = some (.int .i64 xb.f2.f4) := cell_at g7 rfl
    have hG := Aside0.mk (And.intro g7 g8)
    clear g7 g8
    go_wp2_with fail
    have hC := fun {α : Type} {d : Kd α} {A : Option Addr} {n : Nat} {xs : List α} (h : Kd.F d wr (fun k => k < w.heap.size) A n xs) => Kd.C_below (Kd.F_now h) hBv.out.1
    refine (rblock_any (W := W) (R := R) (Lat := Lat) (t0 := xb.f2.f0) (t4 := xb.f2.f4) (w := wv) ⟨Kd.C_below hX.out.1 hBv.out.2, hX.out.2.1, hC hFs.out.2.1, hFs.out.1, hC hFs.out.2.2.2.1, hFs.out.2.2.1, hC hFs.out.2.2.2.2.2.1, hFs.out.2.2.2.2.1, hC hFs.out.2.2.2.2.2.2.2.1, hFs.out.2.2.2.2.2.2.1, hC hFs.out.2.2.2.2.2.2.2.2.2, hFs.out.2.2.2.2.2.2.2.2.1⟩ hO.out.2.2.2.2.2.2 hX.out.2.2.1).mono ?_
    rintro e wc ⟨vo, vy, o, y, rfl, hIs, r1, r2, Bc⟩
    obtain ⟨Ao, co, ev, ho, Co⟩ := Kd.R_reads r1
    subst ev
    have hm8 : bt + 1 < wc.heap.size := Nat.lt_of_lt_of_le hsz8.out Bc.size
    have hfo : Kd.F (Kd.int .i64) wc (fun k => bt + 1 < k ∧ k < wc.heap.size) Ao o.length o := Kd.F_mono (Kd.F_bound (Kd.R_F r1)) (fun k hk => ⟨by have := hk.1; have := hsz8.out; omega, hk.2⟩)
    obtain ⟨hb1, hb2, hb3⟩ := hIs.bounds hO.out.2.2.2.2.2.2.len
    have ho60 : o.length ≤ 60 := Nat.le_trans hb2 hO.out.2.2.2.2.2.2.len
    have hY := Aside0.mk (And.intro hIs (And.intro Co (And.intro (fun j hj => (hb3 j hj).1) (And.intro (bl1 hBv.out.1 Bc) (hBv.out.2.trans (Bc.mono hBv.out.2.size))))))
    have hG2 := Aside0.mk (And.intro ((Bc.block _ (blk_lt' hG.out.1)).trans hG.out.1) ((Bc.block _ (blk_lt' hG.out.2)).trans hG.out.2))
    clear r1 r2 hIs ho Co hb1 hb2 hb3 Bc u0 u1 u2 y0 y1 y2 y3 y4 y5 y6 hG hC hBv
    have p1 : wc.cell? ⟨bt + 1, 1, none⟩ = some (.slice Ai xb.f1.length ei) := cell_at hG2.out.2 rfl
    have p2 : wc.frozen? ⟨bt + 1, 1, none⟩ = false := free_at hG2.out.2 1
    go_upto_region 10 with (fail)
    have hwd0 : IR w x W R AL cL Lat.length b0 bg AP cP AR cR (some af) cB (.slice AV L.length cV) bt wc.heap.size [.slice A0 xb.f0.length e0, .slice Ai xb.f1.length ei, .int .i64 xb.f2.f0, .slice A7 xb.f2.f1.length e7, .slice A8 xb.f2.f2.length e8, .slice A9 xb.f2.f3.length e9, .int .i64 xb.f2.f4] (.slice A0 xb.f0.length e0) (.int .i64 xb.f2.f0) (.slice A7 xb.f2.f1.length e7) (.slice A8 xb.f2.f2.length e8) (.slice A9 xb.f2.f3.length e9) (.int .i64 xb.f2.f4) L o Ao Ai xb.f1 (.slice none 0 0) (wc.setCell ⟨bt + 1, 1, none⟩ (.slice none 0 0)) :=
     IR.put (vI := .slice Ai xb.f1.length ei) ⟨hO.out.2.2.2.1.below hY.out.2.2.2.1, hG2.out.1, hG2.out.2, Kd.N_below (Kd.N_mono (Kd.N_bound hO.out.2.2.2.2.1) (fun k hk => ⟨hk.1, by have := hk.2; have := hU.out.2.2.2; omega⟩)) hY.out.2.2.2.1, hfo, Kd.F_below hFs.out.2.2.2.1 hY.out.2.2.2.1, hw0.out, hszbg.out, hm8, Nat.le_refl _⟩ _
    obtain ⟨wd, hwd⟩ : ∃ wd, wc.setCell ⟨bt + 1, 1, none⟩ (.slice none 0 0) = wd := ⟨_, rfl⟩
    rw [hwd] at hwd0
    rw [hwd]
    have hK0 : Aside0 (∃ (AI : Option Addr) (cI : Nat), IR w x W R AL cL Lat.length b0 bg AP cP AR cR (some af) cB (.slice AV L.length cV) bt wc.heap.size [.slice A0 xb.f0.length e0, .slice Ai xb.f1.length ei, .int .i64 xb.f2.f0, .slice A7 xb.f2.f1.length e7, .slice A8 xb.f2.f2.length e8, .slice A9 xb.f2.f3.length e9, .int .i64 xb.f2.f4] (.slice A0 xb.f0.length e0) (.int .i64 xb.f2.f0) (.slice A7 xb.f2.f1.length e7) (.slice A8 xb.f2.f2.length e8) (.slice A9 xb.f2.f3.length e9) (.int .i64 xb.f2.f4) L o Ao Ai xb.f1 (.slice AI 0 cI) wd ∧ Kd.N k48 48 wd 0 (fun k => k < w.heap.size ∨ wc.heap.size ≤ k) (.slice AI 0 cI) ((o.take 0).map fun a => rd_T48 xb.f1 a) ∧ (∀ g, (Value.slice AI 0 cI).ownBlock = some g → wc.heap.size ≤ g)) := ⟨none, 0, hwd0, by rw [List.take_zero, List.map_nil]; exact Kd.N_nil _ _ _ _ _, fun g hg => by simp [Value.ownBlock] at hg⟩
    clear hwd0 hwd hfo hm8 p1 p2
    go_wp2_with fail
    go_loopg [34] o.length (fun q v wi => ∃ k : Nat, k + q = o.length ∧ v = .int .i64 (k : Int) ∧ Aside0 (∃ (AI : Option Addr) (cI : Nat), IR w x W R AL cL Lat.length b0 bg AP cP AR cR (some af) cB (.slice AV L.length cV) bt wc.heap.size [.slice A0 xb.f0.length e0, .slice Ai xb.f1.length ei, .int .i64 xb.f2.f0, .slice A7 xb.f2.f1.length e7, .slice A8 xb.f2.f2.length e8, .slice A9 xb.f2.f3.length e9, .int .i64 xb.f2.f4] (.slice A0 xb.f0.length e0) (.int .i64 xb.f2.f0) (.slice A7 xb.f2.f1.length e7) (.slice A8 xb.f2.f2.length e8) (.slice A9 xb.f2.f3.length e9) (.int .i64 xb.f2.f4) L o Ao Ai xb.f1 (.slice AI k cI) wi ∧ Kd.N k48 48 wi 0 (fun k => k < w.heap.size ∨ wc.heap.size ≤ k) (.slice AI k cI) ((o.take k).map fun a => rd_T48 xb.f1 a) ∧ (∀ g, (Value.slice AI k cI).ownBlock = some g → wc.heap.size ≤ g)))
    case atStart => exact ⟨0, by omega, rfl, hK0⟩
    case round =>
     obtain ⟨k, hk, rfl, hG⟩ := hrel
     clear hK0
     by_cases hlk : k < o.length
     ·have hlki : (k : Int) < o.length := by omega
      have hk0 : (0 : Int) ≤ (k : Int) := by omega
      obtain ⟨gk2, rfl⟩ : ∃ q, gk = q + 1 := ⟨gk - 1, by omega⟩
      have hk1 : k + 1 + gk2 = o.length := by omega
      have hgk2 : gk2 < gk2 + 1 := by omega
      obtain ⟨AI, cI, hIR, hNI, hown⟩ := hG.out
      obtain ⟨ao, eA, v1⟩ := Kd.at_int (Kd.F_now hIR.fo) (k : Int) hk0 hlki
      subst eA
      have hab := hY.out.2.2.1 k hlk
      rw [Int.toNat_natCast] at v1
      have hra := rd_get o k hlk
      obtain ⟨a, ha⟩ : ∃ a : Nat, rd o (k : Int) = (a : Int) := ⟨(rd o (k : Int)).toNat, by omega⟩
      rw [ha] at v1 hab hra
      have ha0 : (0 : Int) ≤ (a : Int) := hab.1
      have ha1 : (a : Int) < (xb.f1.length : Int) := hab.2
      obtain ⟨ad, Aa, ca, eA, s0, s1, s2, s3, s4, s5, s6, s7, la, Fa⟩ := at48F hIR.F1 (a : Int) ha0 ha1
      subst eA
      have hbk := F_blk48 hIR.F1 (a : Int) ha0 ha1
      rw [Int.toNat_natCast] at s0 s1 s2 s3 s4 s5 s6 s7
      have htk : (o.take (k + 1)).map (fun a => rd_T48 xb.f1 a) = (o.take k).map (fun a => rd_T48 xb.f1 a) ++ [rd_T48 xb.f1 (a : Int)] := by
       rw [List.take_succ_eq_append_getElem hlk, List.map_append, hra]
       rfl
      obtain ⟨xa, hxa⟩ : ∃ xa, rd_T48 xb.f1 (a : Int) = xa := ⟨_, rfl⟩
      rw [hxa] at s0 s1 s2 s3 s4 s5 s6 s7 la Fa htk
      have q1 : wr.cell? ⟨bt + 1, 1, none⟩ = some (.slice AI k cI) := cell_at hIR.b8 rfl
      have y1 : wr.cell? ⟨bt, 1, none⟩ = some (.slice (some ad) xb.f1.length ei) := cell_at hIR.b7 rfl
      have hEs := Aside0.mk (And.intro hIR (And.intro hNI (And.intro hown (And.intro la (And.intro Fa (And.intro htk hbk))))))
      have htkl : Aside0 (((o.take k).map (fun a => rd_T48 xb.f1 a)).length = k) := ⟨by rw [List.length_map, List.length_take]; omega⟩
      clear hG hIR hNI hown la Fa htk hbk hxa hra ha hab
      go_upto_region 13 with (fail)
      refine Held.begin_ (S := fun w' => w'.cell? ⟨bt + 1, 1, none⟩ = some (.slice AI k cI) ∧ w'.cell? ⟨bt, 1, none⟩ = some (.slice (some ad) xb.f1.length ei) ∧ w'.cell? (ad.add (a * 8)) = some (.int .i64 xa.f0) ∧ w'.cell? ⟨(ad.add (a * 8)).block, (ad.add (a * 8)).off + 1, none⟩ = some (.int .i64 xa.f1) ∧ w'.cell? ⟨(ad.add (a * 8)).block, (ad.add (a * 8)).off + 2, none⟩ = some (.int .i64 xa.f2) ∧ w'.cell? ⟨(ad.add (a * 8)).block, (ad.add (a * 8)).off + 3, none⟩ = some (.slice Aa xa.f3.length ca) ∧ w'.cell? ⟨(ad.add (a * 8)).block, (ad.add (a * 8)).off + 4, none⟩ = some (.int .i64 xa.f4) ∧ w'.cell? ⟨(ad.add (a * 8)).block, (ad.add (a * 8)).off + 5, none⟩ = some (.int .i64 xa.f5) ∧ w'.cell? ⟨(ad.add (a * 8)).block, (ad.add (a * 8)).off + 6, none⟩ = some (.int .i64 xa.f6) ∧ w'.cell? ⟨(ad.add (a * 8)).block, (ad.add (a * 8)).off + 7, none⟩ = some (.bool xa.f7)) 10 (by kernel_rfl) (by kernel_rfl) ?_ (fun hHeld => ?_)
      ·exact ⟨q1, y1, s0, s1, s2, s3, s4, s5, s6, s7⟩
      simp only [List.length_cons, List.length_nil, Nat.reduceAdd, List.replicate, Array.replicate]
      refine Held.take_ (v := ?vv3503100) 0 rfl rfl (by kernel_rfl) (by kernel_rfl) (fun _ _ _ h => h) (by assumption) (Or.inl ⟨by rfl, ?hy3503100⟩) ?_
      case hy3503100 => intro w hSw; (try dsimp only at hSw); (go_simp <;> with_reducible rfl)
      try simp only [Act.put, List.setIfInBounds_toArray, List.set_cons_zero, List.set_cons_succ]
      refine Held.take_ (v := ?vv3503101) 1 rfl rfl (by kernel_rfl) (by kernel_rfl) (fun _ _ _ h => h) (by assumption) (Or.inl ⟨by rfl, ?hy3503101⟩) ?_
      case hy3503101 => intro w hSw; (try dsimp only at hSw); (go_simp <;> with_reducible rfl)
      try simp only [Act.put, List.setIfInBounds_toArray, List.set_cons_zero, List.set_cons_succ]
      refine Held.take_ (v := ?vv3503102) 2 rfl rfl (by kernel_rfl) (by kernel_rfl) (fun _ _ _ h => h) (by assumption) (Or.inl ⟨by rfl, ?hy3503102⟩) ?_
      case hy3503102 => intro w hSw; (try dsimp only at hSw); (go_simp <;> with_reducible rfl)
      try simp only [Act.put, List.setIfInBounds_toArray, List.set_cons_zero, List.set_cons_succ]
      refine Held.take_ (v := ?vv3503103) 3 rfl rfl (by kernel_rfl) (by kernel_rfl) (fun _ _ _ h => h) (by assumption) (Or.inl ⟨by rfl, ?hy3503103⟩) ?_
      case hy3503103 => intro w hSw; (try dsimp only at hSw); (go_simp <;> with_reducible rfl)
      try simp only [Act.put, List.setIfInBounds_toArray, List.set_cons_zero, List.set_cons_succ]
      refine Held.take_ (v := ?vv3503104) 4 rfl rfl (by kernel_rfl) (by kernel_rfl) (fun _ _ _ h => h) (by assumption) (Or.inl ⟨by rfl, ?hy3503104⟩) ?_
      case hy3503104 => intro w hSw; (try dsimp only at hSw); (go_simp <;> with_reducible rfl)
      try simp only [Act.put, List.setIfInBounds_toArray, List.set_cons_zero, List.set_cons_succ]
      refine Held.take_ (v := ?vv3503105) 5 rfl rfl (by kernel_rfl) (by kernel_rfl) (fun _ _ _ h => h) (by assumption) (Or.inl ⟨by rfl, ?hy3503105⟩) ?_
      case hy3503105 => intro w hSw; (try dsimp only at hSw); (go_simp <;> with_reducible rfl)
      try simp only [Act.put, List.setIfInBounds_toArray, List.set_cons_zero, List.set_cons_succ]
      refine Held.take_ (v := ?vv3503106) 6 rfl rfl (by kernel_rfl) (by kernel_rfl) (fun _ _ _ h => h) (by assumption) (Or.inl ⟨by rfl, ?hy3503106⟩) ?_
      case hy3503106 => intro w hSw; (try dsimp only at hSw); (go_simp <;> with_reducible rfl)
      try simp only [Act.put, List.setIfInBounds_toArray, List.set_cons_zero, List.set_cons_succ]
      refine Held.step_ 7 rfl rfl (by kernel_rfl) (fun K hK => ?_)
      go_simp
      have f1 : (fun w' => w'.cell? ⟨bt + 1, 1, none⟩ = some (.slice AI k cI) ∧ w'.cell? ⟨bt, 1, none⟩ = some (.slice (some ad) xb.f1.length ei) ∧ w'.cell? (ad.add (a * 8)) = some (.int .i64 xa.f0) ∧ w'.cell? ⟨(ad.add (a * 8)).block, (ad.add (a * 8)).off + 1, none⟩ = some (.int .i64 xa.f1) ∧ w'.cell? ⟨(ad.add (a * 8)).block, (ad.add (a * 8)).off + 2, none⟩ = some (.int .i64 xa.f2) ∧ w'.cell? ⟨(ad.add (a * 8)).block, (ad.add (a * 8)).off + 3, none⟩ = some (.slice Aa xa.f3.length ca) ∧ w'.cell? ⟨(ad.add (a * 8)).block, (ad.add (a * 8)).off + 4, none⟩ = some (.int .i64 xa.f4) ∧ w'.cell? ⟨(ad.add (a * 8)).block, (ad.add (a * 8)).off + 5, none⟩ = some (.int .i64 xa.f5) ∧ w'.cell? ⟨(ad.add (a * 8)).block, (ad.add (a * 8)).off + 6, none⟩ = some (.int .i64 xa.f6) ∧ w'.cell? ⟨(ad.add (a * 8)).block, (ad.add (a * 8)).off + 7, none⟩ = some (.bool xa.f7)) (wr.alloc (.cells #[.int .i64 xa.f0, .int .i64 xa.f1, .int .i64 xa.f2, .slice Aa xa.f3.length ca, .int .i64 xa.f4, .int .i64 xa.f5, .int .i64 xa.f6, .bool xa.f7] 48)).drew := ⟨kp_cell ((Kp.refl (fun _ => False) wr).alloc _).drew q1 (fun h => h), kp_cell ((Kp.refl (fun _ => False) wr).alloc _).drew y1 (fun h => h), kp_cell ((Kp.refl (fun _ => False) wr).alloc _).drew s0 (fun h => h), kp_cell ((Kp.refl (fun _ => False) wr).alloc _).drew s1 (fun h => h), kp_cell ((Kp.refl (fun _ => False) wr).alloc _).drew s2 (fun h => h), kp_cell ((Kp.refl (fun _ => False) wr).alloc _).drew s3 (fun h => h), kp_cell ((Kp.refl (fun _ => False) wr).alloc _).drew s4 (fun h => h), kp_cell ((Kp.refl (fun _ => False) wr).alloc _).drew s5 (fun h => h), kp_cell ((Kp.refl (fun _ => False) wr).alloc _).drew s6 (fun h => h), kp_cell ((Kp.refl (fun _ => False) wr).alloc _).drew s7 (fun h => h)⟩
      refine hK.out _ _ f1 (fun hHeld2 => ?_)
      clear hK K f1
      try simp only [Act.put, List.setIfInBounds_toArray, List.set_cons_zero, List.set_cons_succ]
      refine Held.step_ 8 rfl rfl (by kernel_rfl) (fun K hK => ?_)
      rw [show (wr.alloc (.cells #[.int .i64 xa.f0, .int .i64 xa.f1, .int .i64 xa.f2, .slice Aa xa.f3.length ca, .int .i64 xa.f4, .int .i64 xa.f5, .int .i64 xa.f6, .bool xa.f7] 48)).drew = wr.drew.alloc (.cells #[.int .i64 xa.f0, .int .i64 xa.f1, .int .i64 xa.f2, .slice Aa xa.f3.length ca, .int .i64 xa.f4, .int .i64 xa.f5, .int .i64 xa.f6, .bool xa.f7] 48) from rfl]
      refine Kd.N_append_step k48 (w0 := wr) (W := wr.drew) 0 (by rfl) (.tmp 39) (.tmp 45) 25 48 (.agg #[.int .i64 0, .int .i64 0, .int .i64 0, .slice none 0 0, .int .i64 0, .int .i64 0, .int .i64 0, .bool false]) 80 (by rfl) Tryd.underlying25 infoZN rfl (by decide) (by decide) (.slice AI k cI) ((o.take k).map fun a => rd_T48 xb.f1 a) xa [.int .i64 xa.f0, .int .i64 xa.f1, .int .i64 xa.f2, .slice Aa xa.f3.length ca, .int .i64 xa.f4, .int .i64 xa.f5, .int .i64 xa.f6, .bool xa.f7] (fun k => k < w.heap.size ∨ wc.heap.size ≤ k) (fun k => k < w.heap.size) (by rfl) (by rfl) (k48_mkF _ _ xa hEs.out.2.2.2.1 (Kd.F_drew hEs.out.2.2.2.2.1)) (fun k' hk' => ⟨.inl hk', fun e => ?_⟩) (fun k' hk' => .inr (Nat.le_trans hEs.out.1.hsz hk')) (Kd.N_drew hEs.out.2.1) ((Kp.refl (fun _ => False) wr).drew.belowB (fun _ h => h.elim) (Nat.zero_le _)) (Nat.zero_le _) (by rw [htkl.out]; omega) ?_
      ·have h1 := hEs.out.2.2.1 k' e.symm
       have h2 := hEs.out.1.hw
       have h3 := hEs.out.1.hbt
       have h4 := hEs.out.1.hm
       have h5 := hEs.out.1.ru.hbg
       omega
      intro v7 w7 hN7 _ hg7 hat7
      have hkp : Kp (fun k => wc.heap.size ≤ k) wr w7 := (Kp.refl (fun k => wc.heap.size ≤ k) wr).drew.grown hg7 (fun k' hk' => .inl (hEs.out.2.2.1 k' hk'))
      have hI7 := hEs.out.1.kept hkp (fun _ h => h)
      obtain ⟨A7', c7', ev⟩ := Kd.N_slice hN7
      rw [← hEs.out.2.2.2.2.2.1] at hN7 ev
      have hl7 : ((o.take (k + 1)).map (fun a => rd_T48 xb.f1 a)).length = k + 1 := by rw [List.length_map, List.length_take]; omega
      rw [hl7] at ev
      subst ev
      have hown7 : ∀ g, (Value.slice A7' (k + 1) c7').ownBlock = some g → wc.heap.size ≤ g := fun g hg => by
       rcases hat7 with hat | ⟨b, hb, hle⟩
       ·exact hEs.out.2.2.1 g (hat ▸ hg)
       ·rw [hg] at hb
        injection hb with hb
        have := hEs.out.1.hsz
        have h9 : wr.heap.size ≤ b := hle
        omega
      have nb : ¬ wc.heap.size ≤ ad.block := by
       have h1 := hEs.out.2.2.2.2.2.2
       have h2 := hEs.out.1.hw
       have h3 := hEs.out.1.hbt
       have h4 := hEs.out.1.hm
       have h5 := hEs.out.1.ru.hbg
       omega
      have nb' : ¬ wc.heap.size ≤ (ad.add (a * 8)).block := by rw [show (ad.add (a * 8)).block = ad.block from addb _ _]; exact nb
      have nt : ¬ wc.heap.size ≤ bt + 1 := by have := hEs.out.1.hm; omega
      have f2 : w7.cell? ⟨bt + 1, 1, none⟩ = some (.slice AI k cI) ∧ w7.cell? ⟨bt, 1, none⟩ = some (.slice (some ad) xb.f1.length ei) ∧ w7.cell? (ad.add (a * 8)) = some (.int .i64 xa.f0) ∧ w7.cell? ⟨(ad.add (a * 8)).block, (ad.add (a * 8)).off + 1, none⟩ = some (.int .i64 xa.f1) ∧ w7.cell? ⟨(ad.add (a * 8)).block, (ad.add (a * 8)).off + 2, none⟩ = some (.int .i64 xa.f2) ∧ w7.cell? ⟨(ad.add (a * 8)).block, (ad.add (a * 8)).off + 3, none⟩ = some (.slice Aa xa.f3.length ca) ∧ w7.cell? ⟨(ad.add (a * 8)).block, (ad.add (a * 8)).off + 4, none⟩ = some (.int .i64 xa.f4) ∧ w7.cell? ⟨(ad.add (a * 8)).block, (ad.add (a * 8)).off + 5, none⟩ = some (.int .i64 xa.f5) ∧ w7.cell? ⟨(ad.add (a * 8)).block, (ad.add (a * 8)).off + 6, none⟩ = some (.int .i64 xa.f6) ∧ w7.cell? ⟨(ad.add (a * 8)).block, (ad.add (a * 8)).off + 7, none⟩ = some (.bool xa.f7) := ⟨kp_cell hkp q1 nt, kp_cell hkp y1 (fun h => nt (Nat.le_succ_of_le h)), kp_cell hkp s0 nb', kp_cell hkp s1 nb', kp_cell hkp s2 nb', kp_cell hkp s3 nb', kp_cell hkp s4 nb', kp_cell hkp s5 nb', kp_cell hkp s6 nb', kp_cell hkp s7 nb'⟩
      have f2a := f2.1
      have f2z : w7.frozen? ⟨bt + 1, 1, none⟩ = false := free_at hI7.b8 1
      have hK7 := Aside0.mk (And.intro hI7 (And.intro hN7 hown7))
      clear hI7 hN7 hown7 hkp hat7 hg7 nb nb' nt hl7
      refine hK.out _ _ f2 (fun hHeld3 => ?_)
      clear hK K f2
      try simp only [Act.put, List.setIfInBounds_toArray, List.set_cons_zero, List.set_cons_succ]
      refine Held.take_ (v := ?vv4165209) 9 rfl rfl (by kernel_rfl) (by kernel_rfl) (fun _ _ _ h => h) (by assumption) (Or.inl ⟨by rfl, ?hy4165209⟩) ?_
      case hy4165209 => intro w hSw; (try dsimp only at hSw); (go_simp <;> with_reducible rfl)
      try simp only [Act.put, List.setIfInBounds_toArray, List.set_cons_zero, List.set_cons_succ]
      refine Held.rest_ (by kernel_rfl) ?_
      simp only [List.drop_succ_cons, List.drop_zero]
      clear hHeld hHeld2 hHeld3
      go_upto_region 14 with (fail)
      obtain ⟨w8, hw8⟩ : ∃ w8, w7.setCell ⟨bt + 1, 1, none⟩ (.slice A7' (k + 1) c7') = w8 := ⟨_, rfl⟩
      have hK8 : Aside0 (∃ (AI : Option Addr) (cI : Nat), IR w x W R AL cL Lat.length b0 bg AP cP AR cR (some af) cB (.slice AV L.length cV) bt wc.heap.size [.slice A0 xb.f0.length e0, .slice (some ad) xb.f1.length ei, .int .i64 xb.f2.f0, .slice A7 xb.f2.f1.length e7, .slice A8 xb.f2.f2.length e8, .slice A9 xb.f2.f3.length e9, .int .i64 xb.f2.f4] (.slice A0 xb.f0.length e0) (.int .i64 xb.f2.f0) (.slice A7 xb.f2.f1.length e7) (.slice A8 xb.f2.f2.length e8) (.slice A9 xb.f2.f3.length e9) (.int .i64 xb.f2.f4) L o (some ao) (some ad) xb.f1 (.slice AI (k + 1) cI) w8 ∧ Kd.N k48 48 w8 0 (fun k => k < w.heap.size ∨ wc.heap.size ≤ k) (.slice AI (k + 1) cI) ((o.take (k + 1)).map fun a => rd_T48 xb.f1 a) ∧ (∀ g, (Value.slice AI (k + 1) cI).ownBlock = some g → wc.heap.size ≤ g)) := by
       rw [← hw8]
       refine ⟨A7', c7', hK7.out.1.put _, Kd.N_far hK7.out.2.1 (p := ⟨bt + 1, 1, none⟩) (fun k' hk' => ?_) _, hK7.out.2.2⟩
       have h2 := hK7.out.1.hw
       have h3 := hK7.out.1.hbt
       have h4 := hK7.out.1.hm
       have h5 := hK7.out.1.ru.hbg
       show k' ≠ bt + 1
       omega
      rw [hw8]
      clear hw8 hK7 hEs htkl f2a f2z v1 s0 s1 s2 s3 s4 s5 s6 s7 q1 y1
      go_wp2_with fail
      go_roundg gk2
      case rel => exact ⟨k + 1, hk1, by go_num, hK8⟩
      case measure => exact hgk2
     ·have hke : k = o.length := by omega
      subst hke
      obtain ⟨AI, cI, hIR, hNI, hown⟩ := hG.out
      rw [List.take_length] at hNI
      obtain ⟨_, _, _, _, u5, u6⟩ := hIR.ru.cells
      have hc8 := hIR.b8
      have p0 : wr.cell? ⟨bt + 1, 0, none⟩ = some (.slice A0 xb.f0.length e0) := cell_at hc8 rfl
      have p1 : wr.cell? ⟨bt + 1, 1, none⟩ = some (.slice AI o.length cI) := cell_at hc8 rfl
      have p2 : wr.cell? ⟨bt + 1, 2, none⟩ = some (.int .i64 xb.f2.f0) := cell_at hc8 rfl
      have p3 : wr.cell? ⟨bt + 1, 3, none⟩ = some (.slice A7 xb.f2.f1.length e7) := cell_at hc8 rfl
      have p4 : wr.cell? ⟨bt + 1, 4, none⟩ = some (.slice A8 xb.f2.f2.length e8) := cell_at hc8 rfl
      have p5 : wr.cell? ⟨bt + 1, 5, none⟩ = some (.slice A9 xb.f2.f3.length e9) := cell_at hc8 rfl
      have p6 : wr.cell? ⟨bt + 1, 6, none⟩ = some (.int .i64 xb.f2.f4) := cell_at hc8 rfl
      have hl : (reord xb o).f1.length = o.length := by simp [reord]
      have hbl9 : ∀ k, k < w.heap.size → k < w.heap.size ∨ wc.heap.size ≤ k := fun k hk => .inl hk
      have hnr := Kd.N_reads' hNI
      have key := k31_mkF wr (fun k => k < w.heap.size ∨ wc.heap.size ≤ k) (reord xb o) hFs.out.1 (hFl.out _ _ hIR.ru.b hbl9 hFs.out.2.1) (A1 := AI) (c1 := cI) (by rw [hl]; exact hnr.2.1) (by rw [hl]; exact Kd.N_F hNI) hFs.out.2.2.2.2.1 (hFl.out _ _ hIR.ru.b hbl9 hFs.out.2.2.2.2.2.1) hFs.out.2.2.2.2.2.2.1 (hFl.out _ _ hIR.ru.b hbl9 hFs.out.2.2.2.2.2.2.2.1) hFs.out.2.2.2.2.2.2.2.2.1 (hFl.out _ _ hIR.ru.b hbl9 hFs.out.2.2.2.2.2.2.2.2.2)
      rw [hl] at key
      have hnl := hIR.nl
      have hkp : ∀ k, (k < w.heap.size ∨ wc.heap.size ≤ k) → UF w b0 bg k ∧ some k ≠ (Value.slice AV L.length cV).ownBlock := fun k hk => by
       have h1 := hIR.hw
       have h2 := hIR.hbt
       have h3 := hIR.hm
       have h4 := hIR.ru.hbg
       refine ⟨⟨hk.imp id (fun h => by omega), by omega⟩, fun e => ?_⟩
       have h5 := hOw.out k e.symm
       have h6 := (hnl.1 k e.symm).2
       omega
      have hE := Aside0.mk (And.intro hIR.ru (And.intro (Kd.N_mono hnl (fun k hk => hk.1)) (And.intro key hkp)))
      clear hG hIR hNI hown hc8 hl hbl9 hnr key hnl hkp
      go_upto_region 16 with (at_builtin; refine Kd.N_append k31 (w0 := wr) (W := wr) 0 (by rfl) (.tmp 50) (.tmp 52) 53 31 (.agg #[.slice none 0 0, .slice none 0 0, .int .i64 0, .slice none 0 0, .slice none 0 0, .slice none 0 0, .int .i64 0]) 136 (by rfl) Tryd.underlying53 infoZB rfl (by decide) (by decide) (.slice AV L.length cV) L (reord xb o) [.slice A0 xb.f0.length e0, .slice AI o.length cI, .int .i64 xb.f2.f0, .slice A7 xb.f2.f1.length e7, .slice A8 xb.f2.f2.length e8, .slice A9 xb.f2.f3.length e9, .int .i64 xb.f2.f4] (UF w b0 bg) (fun k => k < w.heap.size ∨ wc.heap.size ≤ k) (by rfl) (by rfl) hE.out.2.2.1 (hE.out.2.2.2) (fun k hk => ⟨.inr (by have := blk_lt' hE.out.1.gb; have := hE.out.1.hbg; have := blk_lt' hE.out.1.gb; omega), by have := blk_lt' hE.out.1.gb; omega⟩) hE.out.2.1 ((Kp.refl (fun _ => False) wr).belowB (fun _ h => h.elim) (Nat.zero_le _)) (Nat.zero_le _) hbl.out ?_; intro v7 w7 hN7 _ hg7 hat7; obtain ⟨hR7, A9', c9', rfl, hRp, hNp, hOp⟩ := blk_done hE.out.1 hw0.out hOw.out hg7 hat7 hN7; obtain ⟨_, _, _, _, zz5, zz6⟩ := hR7.cells; have hD7 := Aside0.mk (And.intro hRp (And.intro hNp hOp)); clear hN7 hg7 hat7 hR7 hRp hNp hOp)
      have e9 : (L ++ [reord xb o]).length = L.length + 1 := by rw [List.length_append, List.length_singleton]
      obtain ⟨w8, hw8⟩ : ∃ w8, w7.setCell ⟨bg, 6, none⟩ (.slice A9' (L.length + 1) c9') = w8 := ⟨_, rfl⟩
      have hK8 : Aside0 (∃ (L : List S31) (AV : Option Addr) (cV : Nat), L.length = i + 1 ∧ (true = true → Pre W R Lat x.f6 L) ∧ (true = false → L = x.f6.take (i + 1)) ∧ RU w x W R AL cL Lat.length b0 bg AP cP AR cR (some af) cB (.slice AV L.length cV) w8 ∧ Kd.N k31 31 w8 0 (UF w b0 bg) (.slice AV L.length cV) L ∧ ∀ g, (Value.slice AV L.length cV).ownBlock = some g → bg < g) := by
       rw [← hw8]
       have h9 := hD7.out
       rw [e9] at h9
       exact ⟨L ++ [reord xb o], A9', c9', (by rw [e9, hO.out.1]), (fun _ => (hO.out.2.1 (by trivial)).next (by rw [hO.out.1]; exact hO.out.2.2.2.2.2.1) hY.out.1), (fun h => by cases h), (by rw [e9]; exact h9)⟩
      rw [hw8]
      clear hw8 e9 hD7 hE hFl hFs hO hOw hbl hU hY hG2 hsz8 hszbg p0 p1 p2 p3 p4 p5 p6 u5 u6 zz5 zz6
      go_wp2_with fail
      go_roundg gk1
      case rel => exact ⟨i + 1, hi1, by go_num, hK8⟩
      case measure => exact hgk1
  ·obtain ⟨L, AV, cV, hLl, hT1, hT2, hRU, hNL, hOw⟩ := hJ.out
   have hie : i = x.f6.length := by omega
   subst hie
   have hSch : Aside0 (IsSch W R Lat x.f6 L) := by
    cases vb with
    | false => exact ⟨.inl ⟨hX.out.2.2.2.2.2.2.2.2.2.2.2, by rw [hT2 rfl, List.take_length]⟩⟩
    | true => exact ⟨(hT1 rfl).sch hX.out.2.2.2.2.2.2.2.2.2.2.2 hLl⟩
   have hbx := hRU.gb
   obtain ⟨y0, y1, y2, y3, y4, y5, y6, hr2⟩ := hRU.res
   have u0 : wr.cell? ⟨bg, 0, none⟩ = some (.string x.f0) := cell_at hbx rfl
   have u1 : wr.cell? ⟨bg, 1, none⟩ = some (.slice AP x.f1.length cP) := cell_at hbx rfl
   have u2 : wr.cell? ⟨bg, 2, none⟩ = some (.int .i64 x.f2) := cell_at hbx rfl
   have u3 : wr.cell? ⟨bg, 3, none⟩ = some (.slice AR x.f3.length cR) := cell_at hbx rfl
   have u4 : wr.cell? ⟨bg, 4, none⟩ = some (.int .i64 x.f4) := cell_at hbx rfl
   have u5 : wr.cell? ⟨bg, 5, none⟩ = some (.int .i64 x.f5) := cell_at hbx rfl
   have u6 : wr.cell? ⟨bg, 6, none⟩ = some (.slice AV L.length cV) := cell_at hbx rfl
   have v0 : wr.cell? ⟨b0 + 2, 0, none⟩ = some y0 := cell_at hr2 rfl
   have z0 := free_at hr2 0
   have v1 : wr.cell? ⟨b0 + 2, 1, none⟩ = some y1 := cell_at hr2 rfl
   have z1 := free_at hr2 1
   have v2 : wr.cell? ⟨b0 + 2, 2, none⟩ = some y2 := cell_at hr2 rfl
   have z2 := free_at hr2 2
   have v3 : wr.cell? ⟨b0 + 2, 3, none⟩ = some y3 := cell_at hr2 rfl
   have z3 := free_at hr2 3
   have v4 : wr.cell? ⟨b0 + 2, 4, none⟩ = some y4 := cell_at hr2 rfl
   have z4 := free_at hr2 4
   have v5 : wr.cell? ⟨b0 + 2, 5, none⟩ = some y5 := cell_at hr2 rfl
   have z5 := free_at hr2 5
   have v6 : wr.cell? ⟨b0 + 2, 6, none⟩ = some y6 := cell_at hr2 rfl
   have z6 := free_at hr2 6
   have hE := Aside0.mk (And.intro hRU hNL)
   clear hJ hLl hT1 hT2 hRU hNL hOw hbx hr2
   go_wp2
   obtain ⟨w9, hw9⟩ : ∃ w9, ((((((wr.setCell ⟨b0 + 2, 0, none⟩ (.string x.f0)).setCell ⟨b0 + 2, 1, none⟩ (.slice AP x.f1.length cP)).setCell ⟨b0 + 2, 2, none⟩ (.int .i64 x.f2)).setCell ⟨b0 + 2, 3, none⟩ (.slice AR x.f3.length cR)).setCell ⟨b0 + 2, 4, none⟩ (.int .i64 x.f4)).setCell ⟨b0 + 2, 5, none⟩ (.int .i64 x.f5)).setCell ⟨b0 + 2, 6, none⟩ (.slice AV L.length cV) = w9 := ⟨_, rfl⟩
   obtain ⟨hblk, hSF⟩ := rf_end (Lat := Lat) hw0.out hE.out.1 hE.out.2 hSch.out hX.out.2.2.2.1 hX.out.2.2.2.2.1 hX.out.2.2.2.2.2.1 hX.out.2.2.2.2.2.2.1 hw9
   rw [hw9]
   refine bodyPost_ret (results_cell_row rfl _ _ (b0 + 2) 55 #[.string x.f0, .slice AP x.f1.length cP, .int .i64 x.f2, .slice AR x.f3.length cR, .int .i64 x.f4, .int .i64 x.f5, .slice AV L.length cV] (0, 0) _ rfl hblk Tryd.underlying55 rfl (by kernel_rfl)) rfl ?_
   exact hSF
end Go.Proofs.YtjacphcbiaacnaaDoor
end

section
namespace Go.Proofs.YtjacphcbiaacnaaDoor.PDigraphTells
open Go.RowKit Go.Proofs.YtjacphcbiaacnaaDoorW.PrintWords Go.Proofs.YtjacphcbiaacnaaDoorW.PrintLast Go.Proofs.YtjacphcbiaacnaaDoorW.PrintMore
attribute [local go_sem] max2_int min2_int max_two min_two max_three min_three max_four min_four
set_option linter.unusedVariables false
set_option linter.unusedSimpArgs false
def api_Type_53.l0 : Nat → List Int → List Int → Int → Int → Option (Bool)
 | 0, _, _, _, _ => none
 | k + 1, x0, x1, x12, x13 => if x13 < x12 then (if 0 ≤ x13 then (if x13 < (x0.length : Int) then (if x13 < (x1.length : Int) then (if (rd x0 x13) = (rd x1 x13) then (api_Type_53.l0 k x0 x1 x12 (wrap64 (x13 + 1))) else (some false)) else (none)) else (none)) else (none)) else (some true)
def api_Type_53.f (k : Nat) (l0 : List Int) (l1 : List Int) : Option (Bool) := if (l0.length : Int) = (l1.length : Int) then (api_Type_53.l0 k l0 l1 (l0.length : Int) 0) else (some false)
set_option maxHeartbeats 8000000 in
set_option maxRecDepth 100000 in
theorem api_Type_53.calls (k : Nat) (A0 : Option Addr) (c0 : Nat) (l0 : List Int) (A1 : Option Addr) (c1 : Nat) (l1 : List Int) (r : Bool) (w : World) (hr0 : Kd.C (Kd.int .i64) w A0 l0.length l0) (hc0 : l0.length ≤ c0) (hr1 : Kd.C (Kd.int .i64) w A1 l1.length l1) (hc1 : l1.length ≤ c1) (h : api_Type_53.f k l0 l1 = some r) :
  Calls Tryd.prog 53 #[.slice A0 l0.length c0, .slice A1 l1.length c1] w fun e w' => e = .returned (.bool r) ∧ Drawn0 w w' := by
 have HR0 := Aside0.mk hr0
 have HC0 := Aside0.mk hc0
 clear hr0 hc0
 have HR1 := Aside0.mk hr1
 have HC1 := Aside0.mk hc1
 clear hr1 hc1
 have H : (if (l0.length : Int) = (l1.length : Int) then (api_Type_53.l0 k l0 l1 (l0.length : Int) 0) else (some false)) = some r := h
 clear h
 by_cases c3 : (l0.length : Int) = (l1.length : Int)
 ·rw [if_pos c3] at H
  have c3b0 : ((l0.length : Int) == (l1.length : Int)) = true := beq_iff_eq.mpr c3
  have c3b1 : ((l0.length : Int) != (l1.length : Int)) = false := bne_eq_false_iff_eq.mpr c3
  have c3b2 : (l0.length == l1.length) = true := by first | simpa using c3 | (simp at c3 ⊢; omega)
  clear c3
  have H' := Aside0.mk H
  clear H
  go_enter Tryd.func53, Tryd.ntmps53
  go_wp2
  repeat (go_quiet (fail); try go_wp2)
  go_loopg [13] k (fun kq v13 w' => ∃ (x13_1 : Int), v13 = .int .i64 x13_1 ∧ Aside0 (api_Type_53.l0 kq l0 l1 (l0.length : Int) x13_1 = some r) ∧ Aside0 (kq ≤ k) ∧ Drawn0 w w')
  case atStart => exact ⟨(0), (by first | rfl | (simp; done) | (simp [*]; done)), H', ⟨Nat.le_refl _⟩, by repeat (first | exact Drawn0.refl _ | apply Drawn0.step)⟩
  case round =>
   clear H'
   try clear c1
   try clear p2
   try clear c3
   try clear c3b0
   try clear c3b1
   try clear c3b2
   obtain ⟨x13_1, rfl, HA, HK1, ⟨m1, rfl⟩⟩ := hrel
   cases gk with
   | zero => exact absurd HA.out (by simp [api_Type_53.l0])
   | succ k1 =>
    have H := HA.out
    clear HA
    simp only [api_Type_53.l0] at H
    by_cases c4 : x13_1 < (l0.length : Int)
    ·rw [if_pos c4] at H
     have c4b0 : decide (x13_1 < (l0.length : Int)) = true := decide_eq_true c4
     clear c4
     by_cases c5 : 0 ≤ x13_1
     ·rw [if_pos c5] at H
      have c5b0 : decide (0 ≤ x13_1) = true := decide_eq_true c5
      clear c5
      by_cases c6 : x13_1 < (l0.length : Int)
      ·rw [if_pos c6] at H
       have c6b0 : decide (x13_1 < (l0.length : Int)) = true := decide_eq_true c6
       clear c6
       by_cases c7 : x13_1 < (l1.length : Int)
       ·rw [if_pos c7] at H
        have c7b0 : decide (x13_1 < (l1.length : Int)) = true := decide_eq_true c7
        clear c7
        by_cases c8 : (rd l0 x13_1) = (rd l1 x13_1)
        ·rw [if_pos c8] at H
         have c8b0 : ((rd l0 x13_1) == (rd l1 x13_1)) = true := beq_iff_eq.mpr c8
         have c8b1 : ((rd l0 x13_1) != (rd l1 x13_1)) = false := bne_eq_false_iff_eq.mpr c8
         clear c8
         have H' := Aside0.mk H
         clear H
         have p185 : 0 ≤ (x13_1 : Int) := of_decide_eq_true (by first | (with_reducible assumption) | assumption)
         have q185 : x13_1 < (l0.length : Int) := of_decide_eq_true (by first | (with_reducible assumption) | assumption)
         obtain ⟨ad185, e185, hx185_0⟩ := Kd.at_int HR0.out x13_1 p185 q185
         cases e185
         replace p185 := eq_true p185
         replace q185 := eq_true q185
         have p186 : 0 ≤ (x13_1 : Int) := of_decide_eq_true (by first | (with_reducible assumption) | assumption)
         have q186 : x13_1 < (l1.length : Int) := of_decide_eq_true (by first | (with_reducible assumption) | assumption)
         obtain ⟨ad186, e186, hx186_0⟩ := Kd.at_int HR1.out x13_1 p186 q186
         cases e186
         replace p186 := eq_true p186
         replace q186 := eq_true q186
         go_wp2
         repeat (go_quiet (fail); try go_wp2)
         go_roundg k1
         case measure => have := HK1.out; omega
         case rel => exact ⟨(wrap64 (x13_1 + 1)), (by first | rfl | (simp; done) | (simp [*]; done)), H', ⟨by have := HK1.out; omega⟩, by repeat (first | exact Drawn0.refl _ | apply Drawn0.step)⟩
        ·rw [if_neg c8] at H
         have c8b0 : ((rd l0 x13_1) == (rd l1 x13_1)) = false := beq_eq_false_iff_ne.mpr c8
         have c8b1 : ((rd l0 x13_1) != (rd l1 x13_1)) = true := bne_iff_ne.mpr c8
         obtain rfl := Option.some.inj H
         have p185 : 0 ≤ (x13_1 : Int) := of_decide_eq_true (by first | (with_reducible assumption) | assumption)
         have q185 : x13_1 < (l0.length : Int) := of_decide_eq_true (by first | (with_reducible assumption) | assumption)
         obtain ⟨ad185, e185, hx185_0⟩ := Kd.at_int HR0.out x13_1 p185 q185
         cases e185
         replace p185 := eq_true p185
         replace q185 := eq_true q185
         have p186 : 0 ≤ (x13_1 : Int) := of_decide_eq_true (by first | (with_reducible assumption) | assumption)
         have q186 : x13_1 < (l1.length : Int) := of_decide_eq_true (by first | (with_reducible assumption) | assumption)
         obtain ⟨ad186, e186, hx186_0⟩ := Kd.at_int HR1.out x13_1 p186 q186
         cases e186
         replace p186 := eq_true p186
         replace q186 := eq_true q186
         go_wp2
         repeat (go_quiet (fail); try go_wp2)
         go_ret
         exact ⟨by first | rfl | (simp; done) | (simp [*]; done), by repeat (first | exact Drawn0.refl _ | apply Drawn0.step)⟩
       ·rw [if_neg c7] at H
        exact absurd H (by simp)
      ·rw [if_neg c6] at H
       exact absurd H (by simp)
     ·rw [if_neg c5] at H
      exact absurd H (by simp)
    ·rw [if_neg c4] at H
     have c4b0 : decide (x13_1 < (l0.length : Int)) = false := decide_eq_false c4
     clear c4
     obtain rfl := Option.some.inj H
     go_wp2
     repeat (go_quiet (fail); try go_wp2)
     go_ret
     exact ⟨by first | rfl | (simp; done) | (simp [*]; done), by repeat (first | exact Drawn0.refl _ | apply Drawn0.step)⟩
 ·rw [if_neg c3] at H
  have c3b0 : ((l0.length : Int) == (l1.length : Int)) = false := beq_eq_false_iff_ne.mpr c3
  have c3b1 : ((l0.length : Int) != (l1.length : Int)) = true := bne_iff_ne.mpr c3
  have c3b2 : (l0.length == l1.length) = false := by first | simpa using c3 | (simp at c3 ⊢; omega)
  obtain rfl := Option.some.inj H
  go_enter Tryd.func53, Tryd.ntmps53
  go_wp2
  repeat (go_quiet (fail); try go_wp2)
  go_ret
  exact ⟨by first | rfl | (simp; done) | (simp [*]; done), by repeat (first | exact Drawn0.refl _ | apply Drawn0.step)⟩
end Go.Proofs.YtjacphcbiaacnaaDoor.PDigraphTells
end

section
namespace Go.Proofs.YtjacphcbiaacnaaDoor.PDigraphTells
open Go.RowKit Go.Proofs.YtjacphcbiaacnaaDoorW.PrintWords Go.Proofs.YtjacphcbiaacnaaDoorW.PrintLast Go.Proofs.YtjacphcbiaacnaaDoorW.PrintMore
attribute [local go_sem] max2_int min2_int max_two min_two max_three min_three max_four min_four
set_option linter.unusedVariables false
set_option linter.unusedSimpArgs false
def slices_Equal_int64_int64.l0 : Nat → List Int → List Int → Int → Int → Option (Bool)
 | 0, _, _, _, _ => none
 | k + 1, x0, x1, x12, x13 => if x13 < x12 then (if 0 ≤ x13 then (if x13 < (x0.length : Int) then (if x13 < (x1.length : Int) then (if (rd x0 x13) = (rd x1 x13) then (slices_Equal_int64_int64.l0 k x0 x1 x12 (wrap64 (x13 + 1))) else (some false)) else (none)) else (none)) else (none)) else (some true)
def slices_Equal_int64_int64.f (k : Nat) (l0 : List Int) (l1 : List Int) : Option (Bool) := if (l0.length : Int) = (l1.length : Int) then (slices_Equal_int64_int64.l0 k l0 l1 (l0.length : Int) 0) else (some false)
set_option maxHeartbeats 8000000 in
set_option maxRecDepth 100000 in
theorem slices_Equal_int64_int64.calls (k : Nat) (A0 : Option Addr) (c0 : Nat) (l0 : List Int) (A1 : Option Addr) (c1 : Nat) (l1 : List Int) (r : Bool) (w : World) (hr0 : Kd.C (Kd.int .i64) w A0 l0.length l0) (hc0 : l0.length ≤ c0) (hr1 : Kd.C (Kd.int .i64) w A1 l1.length l1) (hc1 : l1.length ≤ c1) (h : slices_Equal_int64_int64.f k l0 l1 = some r) :
  Calls Tryd.prog 61 #[.slice A0 l0.length c0, .slice A1 l1.length c1] w fun e w' => e = .returned (.bool r) ∧ Drawn0 w w' := by
 have HR0 := Aside0.mk hr0
 have HC0 := Aside0.mk hc0
 clear hr0 hc0
 have HR1 := Aside0.mk hr1
 have HC1 := Aside0.mk hc1
 clear hr1 hc1
 have H : (if (l0.length : Int) = (l1.length : Int) then (slices_Equal_int64_int64.l0 k l0 l1 (l0.length : Int) 0) else (some false)) = some r := h
 clear h
 by_cases c3 : (l0.length : Int) = (l1.length : Int)
 ·rw [if_pos c3] at H
  have c3b0 : ((l0.length : Int) == (l1.length : Int)) = true := beq_iff_eq.mpr c3
  have c3b1 : ((l0.length : Int) != (l1.length : Int)) = false := bne_eq_false_iff_eq.mpr c3
  have c3b2 : (l0.length == l1.length) = true := by first | simpa using c3 | (simp at c3 ⊢; omega)
  clear c3
  have H' := Aside0.mk H
  clear H
  go_enter Tryd.func61, Tryd.ntmps61
  go_wp2
  repeat (go_quiet (fail); try go_wp2)
  go_loopg [13] k (fun kq v13 w' => ∃ (x13_1 : Int), v13 = .int .i64 x13_1 ∧ Aside0 (slices_Equal_int64_int64.l0 kq l0 l1 (l0.length : Int) x13_1 = some r) ∧ Aside0 (kq ≤ k) ∧ Drawn0 w w')
  case atStart => exact ⟨(0), (by first | rfl | (simp; done) | (simp [*]; done)), H', ⟨Nat.le_refl _⟩, by repeat (first | exact Drawn0.refl _ | apply Drawn0.step)⟩
  case round =>
   clear H'
   try clear c1
   try clear p2
   try clear c3
   try clear c3b0
   try clear c3b1
   try clear c3b2
   obtain ⟨x13_1, rfl, HA, HK1, ⟨m1, rfl⟩⟩ := hrel
   cases gk with
   | zero => exact absurd HA.out (by simp [slices_Equal_int64_int64.l0])
   | succ k1 =>
    have H := HA.out
    clear HA
    simp only [slices_Equal_int64_int64.l0] at H
    by_cases c4 : x13_1 < (l0.length : Int)
    ·rw [if_pos c4] at H
     have c4b0 : decide (x13_1 < (l0.length : Int)) = true := decide_eq_true c4
     clear c4
     by_cases c5 : 0 ≤ x13_1
     ·rw [if_pos c5] at H
      have c5b0 : decide (0 ≤ x13_1) = true := decide_eq_true c5
      clear c5
      by_cases c6 : x13_1 < (l0.length : Int)
      ·rw [if_pos c6] at H
       have c6b0 : decide (x13_1 < (l0.length : Int)) = true := decide_eq_true c6
       clear c6
       by_cases c7 : x13_1 < (l1.length : Int)
       ·rw [if_pos c7] at H
        have c7b0 : decide (x13_1 < (l1.length : Int)) = true := decide_eq_true c7
        clear c7
        by_cases c8 : (rd l0 x13_1) = (rd l1 x13_1)
        ·rw [if_pos c8] at H
         have c8b0 : ((rd l0 x13_1) == (rd l1 x13_1)) = true := beq_iff_eq.mpr c8
         have c8b1 : ((rd l0 x13_1) != (rd l1 x13_1)) = false := bne_eq_false_iff_eq.mpr c8
         clear c8
         have H' := Aside0.mk H
         clear H
         have p187 : 0 ≤ (x13_1 : Int) := of_decide_eq_true (by first | (with_reducible assumption) | assumption)
         have q187 : x13_1 < (l0.length : Int) := of_decide_eq_true (by first | (with_reducible assumption) | assumption)
         obtain ⟨ad187, e187, hx187_0⟩ := Kd.at_int HR0.out x13_1 p187 q187
         cases e187
         replace p187 := eq_true p187
         replace q187 := eq_true q187
         have p188 : 0 ≤ (x13_1 : Int) := of_decide_eq_true (by first | (with_reducible assumption) | assumption)
         have q188 : x13_1 < (l1.length : Int) := of_decide_eq_true (by first | (with_reducible assumption) | assumption)
         obtain ⟨ad188, e188, hx188_0⟩ := Kd.at_int HR1.out x13_1 p188 q188
         cases e188
         replace p188 := eq_true p188
         replace q188 := eq_true q188
         go_wp2
         repeat (go_quiet (fail); try go_wp2)
         go_roundg k1
         case measure => have := HK1.out; omega
         case rel => exact ⟨(wrap64 (x13_1 + 1)), (by first | rfl | (simp; done) | (simp [*]; done)), H', ⟨by have := HK1.out; omega⟩, by repeat (first | exact Drawn0.refl _ | apply Drawn0.step)⟩
        ·rw [if_neg c8] at H
         have c8b0 : ((rd l0 x13_1) == (rd l1 x13_1)) = false := beq_eq_false_iff_ne.mpr c8
         have c8b1 : ((rd l0 x13_1) != (rd l1 x13_1)) = true := bne_iff_ne.mpr c8
         obtain rfl := Option.some.inj H
         have p187 : 0 ≤ (x13_1 : Int) := of_decide_eq_true (by first | (with_reducible assumption) | assumption)
         have q187 : x13_1 < (l0.length : Int) := of_decide_eq_true (by first | (with_reducible assumption) | assumption)
         obtain ⟨ad187, e187, hx187_0⟩ := Kd.at_int HR0.out x13_1 p187 q187
         cases e187
         replace p187 := eq_true p187
         replace q187 := eq_true q187
         have p188 : 0 ≤ (x13_1 : Int) := of_decide_eq_true (by first | (with_reducible assumption) | assumption)
         have q188 : x13_1 < (l1.length : Int) := of_decide_eq_true (by first | (with_reducible assumption) | assumption)
         obtain ⟨ad188, e188, hx188_0⟩ := Kd.at_int HR1.out x13_1 p188 q188
         cases e188
         replace p188 := eq_true p188
         replace q188 := eq_true q188
         go_wp2
         repeat (go_quiet (fail); try go_wp2)
         go_ret
         exact ⟨by first | rfl | (simp; done) | (simp [*]; done), by repeat (first | exact Drawn0.refl _ | apply Drawn0.step)⟩
       ·rw [if_neg c7] at H
        exact absurd H (by simp)
      ·rw [if_neg c6] at H
       exact absurd H (by simp)
     ·rw [if_neg c5] at H
      exact absurd H (by simp)
    ·rw [if_neg c4] at H
     have c4b0 : decide (x13_1 < (l0.length : Int)) = false := decide_eq_false c4
     clear c4
     obtain rfl := Option.some.inj H
     go_wp2
     repeat (go_quiet (fail); try go_wp2)
     go_ret
     exact ⟨by first | rfl | (simp; done) | (simp [*]; done), by repeat (first | exact Drawn0.refl _ | apply Drawn0.step)⟩
 ·rw [if_neg c3] at H
  have c3b0 : ((l0.length : Int) == (l1.length : Int)) = false := beq_eq_false_iff_ne.mpr c3
  have c3b1 : ((l0.length : Int) != (l1.length : Int)) = true := bne_iff_ne.mpr c3
  have c3b2 : (l0.length == l1.length) = false := by first | simpa using c3 | (simp at c3 ⊢; omega)
  obtain rfl := Option.some.inj H
  go_enter Tryd.func61, Tryd.ntmps61
  go_wp2
  repeat (go_quiet (fail); try go_wp2)
  go_ret
  exact ⟨by first | rfl | (simp; done) | (simp [*]; done), by repeat (first | exact Drawn0.refl _ | apply Drawn0.step)⟩
end Go.Proofs.YtjacphcbiaacnaaDoor.PDigraphTells
end

