import Derived.Deep.LoopGhost
import Derived.Deep.RegionLaw
import Derived.Test.YtjacphcbiaacnaaDoorMSFu12
section
set_option linter.unusedVariables false
set_option linter.unusedSimpArgs false
set_option linter.unusedSectionVars false
namespace Go.Proofs.YtjacphcbiaacnaaDoor
open Go.RowKit Go.Proofs.YtjacphcbiaacnaaDoorW.PrintWords Go.Proofs.YtjacphcbiaacnaaDoor.PDigraphTells Mem Sc
structure Rn (w wi : World) (gc cY n : Nat) (Z : Nat → Prop) (s : St) (vo vy : Value) : Prop where
  K : Kp (fun k => k = gc) w wi
  Y : Kd.R (Kd.int .i64) 3 wi 0 (fun k => k = gc) (.slice (some ⟨gc, 0, none⟩) n cY) (tbn n s.t)
  ex : ∃ P O : Nat → Prop, (∀ k, P k → w.heap.size ≤ k ∧ k < wi.heap.size ∧ ¬ Z k) ∧ (∀ k, O k → w.heap.size ≤ k ∧ k < wi.heap.size ∧ ¬ Z k) ∧ (∀ k, P k → ¬ O k) ∧ Kd.R (Kd.int .i64) 3 wi 0 P vo (oL s) ∧ Kd.R (Kd.int .i64) 3 wi 0 O vy s.y
theorem Rn.step {w wi wj : World} {gc cY n : Nat} {Z : Nat → Prop} {s : St} {vo vy : Value} (h : Rn w wi gc cY n Z s vo vy) (hb : Below wi.heap.size wi wj) (hg : gc < wi.heap.size) : Rn w wj gc cY n Z s vo vy := by
  obtain ⟨P, O, h1, h2, h3, h4, h5⟩ := h.ex
  refine ⟨h.K.then_ (Kp.of_below hb (fun _ => False)) (fun _ h => h.elim), Kd.R_step h.Y (fun k hk hlt => hb.block k hlt), P, O, fun k hk => ?_, fun k hk => ?_, h3, Kd.R_step h4 (fun k hk hlt => hb.block k hlt), Kd.R_step h5 (fun k hk hlt => hb.block k hlt)⟩
  · have := h1 k hk; exact ⟨this.1, Nat.lt_of_lt_of_le this.2.1 hb.size, this.2.2⟩
  · have := h2 k hk; exact ⟨this.1, Nat.lt_of_lt_of_le this.2.1 hb.size, this.2.2⟩
theorem Rn.zone {w wi : World} {gc cY n : Nat} {Z Z' : Nat → Prop} {s : St} {vo vy : Value} (h : Rn w wi gc cY n Z s vo vy) (hz : ∀ k, k < wi.heap.size → Z' k → Z k) : Rn w wi gc cY n Z' s vo vy := by
  obtain ⟨P, O, h1, h2, h3, h4, h5⟩ := h.ex
  exact ⟨h.K, h.Y, P, O, fun k hk => ⟨(h1 k hk).1, (h1 k hk).2.1, fun z => (h1 k hk).2.2 (hz k (h1 k hk).2.1 z)⟩, fun k hk => ⟨(h2 k hk).1, (h2 k hk).2.1, fun z => (h2 k hk).2.2 (hz k (h2 k hk).2.1 z)⟩, h3, h4, h5⟩
theorem Rn.store {w wi : World} {gc cY n : Nat} {Z : Nat → Prop} {s : St} {vo vy : Value} (h : Rn w wi gc cY n Z s vo vy) (hgc : gc < w.heap.size) (k : Nat) (c : Int) : Kp (fun k => k = gc) w (wi.setCell ⟨gc, k, none⟩ (.int .i64 c)) ∧ Kd.R (Kd.int .i64) 3 (wi.setCell ⟨gc, k, none⟩ (.int .i64 c)) 0 (fun k => k = gc) (.slice (some ⟨gc, 0, none⟩) n cY) (tbn n (s.put k c).t) ∧
    ∃ P O : Nat → Prop, (∀ k, P k → w.heap.size ≤ k ∧ k < wi.heap.size ∧ ¬ Z k) ∧ (∀ k, O k → w.heap.size ≤ k ∧ k < wi.heap.size ∧ ¬ Z k) ∧ (∀ k, P k → ¬ O k) ∧ Kd.R (Kd.int .i64) 3 (wi.setCell ⟨gc, k, none⟩ (.int .i64 c)) 0 P vo (oL s) ∧ Kd.R (Kd.int .i64) 3 (wi.setCell ⟨gc, k, none⟩ (.int .i64 c)) 0 O vy s.y := by
  obtain ⟨P, O, h1, h2, h3, h4, h5⟩ := h.ex
  have hp := (Kd.R_putg h.Y (k : Int) c).1
  rw [Int.toNat_natCast, tbn_set] at hp
  refine ⟨h.K.setCell (p := ⟨gc, k, none⟩) (.inl rfl) _, hp, P, O, h1, h2, h3, Kd.R_step h4 (fun q hq _ => Below.heap_setCell wi ⟨gc, k, none⟩ _ q (fun e => ?_)), Kd.R_step h5 (fun q hq _ => Below.heap_setCell wi ⟨gc, k, none⟩ _ q (fun e => ?_))⟩
  · have := (h1 q hq).1; have e : q = gc := e; omega
  · have := (h2 q hq).1; have e : q = gc := e; omega
theorem new0 (w : World) (v : Value) : (w.alloc (.cells #[v] 3 (0, 0))).cell? ⟨w.heap.size, 0, none⟩ = some v := cell_at (heap_alloc_new w _) rfl
theorem new1 (w : World) (v : Value) (o : Obj) : ((w.alloc (.cells #[v] 3 (0, 0))).alloc o).cell? ⟨w.heap.size, 0, none⟩ = some v := by
  refine cell_at (p := w.heap.size) (t := 3) (cs := #[v]) ?_ rfl
  rw [Below.heap_alloc _ _ _ (by simp)]
  exact heap_alloc_new w _
theorem new2 (w : World) (v : Value) (o : Obj) : ((w.alloc o).alloc (.cells #[v] 3 (0, 0))).cell? ⟨w.heap.size + 1, 0, none⟩ = some v := by
  simp
theorem rr_lit (W : World) (g : Nat) (v : Int) (h : W.cell? ⟨g, 0, none⟩ = some (.int .i64 v)) : ReadsRow (fun x c => c = [Value.int .i64 x]) 1 W (some ⟨g, 0, none⟩) 1 [v] := by
  refine ⟨rfl, by omega, fun _ => ⟨_, rfl, fun j q hj => ?_⟩⟩
  rcases j with _ | j
  · obtain rfl : v = q := by simpa using hj
    refine ⟨[.int .i64 v], rfl, rfl, fun i u hu => ?_⟩
    rcases i with _ | i
    · obtain rfl : Value.int .i64 v = u := by simpa using hu
      simpa [Addr.add] using h
    · simp at hu
  · simp at hj
theorem cell_blk {w W : World} {a : Addr} (h : W.heap[a.block]? = w.heap[a.block]?) : W.cell? a = w.cell? a := by simp [World.cell?, h]
theorem bel_of {w5 W1 wa : World} {row : Option Nat} (h : W1.grownBy wa row) (hb : Below w5.heap.size w5 W1) : Below w5.heap.size w5 W1 := hb
theorem Rn.app {w w5 W1 wa W2 wb : World} {gc cY n : Nat} {Z P O : Nat → Prop} {s2 : St} {k : Nat} {c : Int} {u2 u3 v1 v2 : Value} (hgc : gc < w.heap.size)
    (q1 : Kp (fun k => k = gc) w w5) (q2 : Kd.R (Kd.int .i64) 3 w5 0 (fun k => k = gc) (.slice (some ⟨gc, 0, none⟩) n cY) (tbn n (s2.put k c).t))
    (q3 : ∀ k, P k → w.heap.size ≤ k ∧ k < w5.heap.size ∧ ¬ Z k) (q4 : ∀ k, O k → w.heap.size ≤ k ∧ k < w5.heap.size ∧ ¬ Z k) (q5 : ∀ k, P k → ¬ O k) (q6 : Kd.R (Kd.int .i64) 3 w5 0 P u2 (oL s2)) (q7 : Kd.R (Kd.int .i64) 3 w5 0 O u3 s2.y) (hz : ∀ k, Z k → k < w5.heap.size)
    (B1 : Below w5.heap.size w5 W1) (gA : W1.grownBy wa u2.ownBlock) (RA : Kd.R (Kd.int .i64) 3 wa 0 (fun q => P q ∨ w5.heap.size ≤ q) v1 (oL s2 ++ [(k : Int)])) (atA : v1.ownBlock = u2.ownBlock ∨ ∃ b, v1.ownBlock = some b ∧ W1.heap.size ≤ b)
    (B2 : Below wa.heap.size wa W2) (gB : W2.grownBy wb u3.ownBlock) (RB : Kd.R (Kd.int .i64) 3 wb 0 (fun q => O q ∨ w5.heap.size ≤ q) v2 (s2.y ++ [c])) (atB : v2.ownBlock = u3.ownBlock ∨ ∃ b, v2.ownBlock = some b ∧ W2.heap.size ≤ b) :
    Rn w wb gc cY n Z (s2.put k c) v1 v2 ∧ ∀ b, Z b → wb.heap[b]? = w5.heap[b]? := by
  have hw5 : w.heap.size ≤ w5.heap.size := q1.size
  have h2 : ∀ q, u2.ownBlock = some q → P q := q6.1
  have h3 : ∀ q, u3.ownBlock = some q → O q := q7.1
  have sA : W1.heap.size ≤ wa.heap.size := gA.size
  have sB : W2.heap.size ≤ wb.heap.size := gB.size
  have keep : ∀ q, q < w5.heap.size → ¬ P q → ¬ O q → wb.heap[q]? = w5.heap[q]? := fun q hq hp ho => by
    have l1 : q < W1.heap.size := Nat.lt_of_lt_of_le hq B1.size
    have l2 : q < wa.heap.size := Nat.lt_of_lt_of_le l1 sA
    have l3 : q < W2.heap.size := Nat.lt_of_lt_of_le l2 B2.size
    rw [gB.block q l3 (fun e => ho (h3 q e.symm)), B2.block q l2, gA.block q l1 (fun e => hp (h2 q e.symm)), B1.block q hq]
  have b1 : ∀ q, some q = v1.ownBlock → q < wa.heap.size := fun q hq => (Kd.R_bound RA).1 q hq.symm |>.2.2.1
  have b2 : ∀ q, some q = v2.ownBlock → q < wb.heap.size := fun q hq => (Kd.R_bound RB).1 q hq.symm |>.2.2.1
  have o1 : ∀ q, some q = v1.ownBlock → P q ∨ w5.heap.size ≤ q := fun q hq => RA.1 q hq.symm
  have o2 : ∀ q, some q = v2.ownBlock → O q ∨ w5.heap.size ≤ q := fun q hq => RB.1 q hq.symm
  have hne : ∀ q, some q = v1.ownBlock → some q ≠ u3.ownBlock := fun q hq e => by
    have h9 := h3 q e.symm
    rcases o1 q hq with h8 | h8
    · exact q5 q h8 h9
    · have := (q4 q h9).2.1; omega
  have hR1 : Kd.R (Kd.int .i64) 3 wb 0 (fun q => some q = v1.ownBlock) v1 (oL s2 ++ [(k : Int)]) := by
    refine Kd.R_step (Kd.R_step (Kd.R_tight rfl RA) (fun q _ hlt => B2.block q hlt)) (fun q hq hlt => gB.block q hlt (hne q hq))
  refine ⟨⟨?_, Kd.R_step q2 (fun q hq hlt => ?_), fun q => some q = v1.ownBlock, fun q => some q = v2.ownBlock, fun q hq => ?_, fun q hq => ?_, fun q hq hq2 => ?_, by rw [oL_put]; exact hR1, Kd.R_tight rfl RB⟩, fun q hq => ?_⟩
  · have k1 : Kp (fun q => w.heap.size ≤ q) w5 wb := (((Kp.of_below B1 (fun q => w.heap.size ≤ q)).grown gA (fun q hq => .inl (q3 q (h2 q hq)).1)).then_ (Kp.of_below B2 (fun q => w.heap.size ≤ q)) (fun q hq => .inl hq)).grown gB (fun q hq => .inl (q4 q (h3 q hq)).1)
    exact q1.then_ k1 (fun q hq => .inr hq)
  · subst hq
    exact keep q hlt (fun h => by have := (q3 q h).1; omega) (fun h => by have := (q4 q h).1; omega)
  · have hb := b1 q hq
    rcases o1 q hq with h8 | h8
    · have := q3 q h8
      exact ⟨this.1, by have := B2.size; omega, this.2.2⟩
    · exact ⟨by omega, by have := B2.size; omega, fun hz2 => by have := hz q hz2; omega⟩
  · have hb := b2 q hq
    rcases o2 q hq with h8 | h8
    · have := q4 q h8
      exact ⟨this.1, hb, this.2.2⟩
    · exact ⟨by omega, hb, fun hz2 => by have := hz q hz2; omega⟩
  · have hq2 : some q = v2.ownBlock := hq2
    rcases atB with h8 | ⟨b, h8, h9⟩
    · exact hne q hq (by rw [← h8]; exact hq2)
    · rw [h8] at hq2
      have : q = b := by injection hq2
      have := b1 q hq
      have := B2.size
      omega
  · have hlt := hz q hq
    exact keep q hlt (fun h => (q3 q h).2.2 hq) (fun h => (q4 q h).2.2 hq)
structure OI (w wi : World) (p gc cY bs bc : Nat) (S : Ins) (h : Nat → Int) (fs : St) (q : Nat) (s : St) (c : Int) (vo vy : Value) : Prop where
  rn : Rn w wi gc cY S.n (fun k => k = bs ∨ k = bc) s vo vy
  z1 : wi.heap[bs]? = some (.cells #[.pointer (some ⟨p, 0, none⟩)] 60 (0, 0))
  z2 : wi.heap[bc]? = some (.cells #[.int .i64 c] 3 (0, 0))
  inv : Inv S s c
  cb : 0 ≤ c ∧ c + q ≤ 100000
  end_ : run S h q c s = fs
  bb : w.heap.size ≤ bc ∧ bc ≠ bs
structure II (w wi : World) (p gc cY bs bc : Nat) (S : Ins) (h : Nat → Int) (s0 : St) (m : Nat) (s : St) (c : Int) (vo vy : Value) : Prop where
  rn : Rn w wi gc cY S.n (fun k => k = bs ∨ k = bc) s vo vy
  z1 : wi.heap[bs]? = some (.cells #[.pointer (some ⟨p, 0, none⟩)] 60 (0, 0))
  z2 : wi.heap[bc]? = some (.cells #[.int .i64 c] 3 (0, 0))
  inv : Inv S s c
  end_ : issue S h c m s = issue S h c S.w s0
theorem II.step {w wi wj : World} {p gc cY bs bc : Nat} {S : Ins} {h : Nat → Int} {s0 s : St} {m : Nat} {c : Int} {vo vy : Value} (K : II w wi p gc cY bs bc S h s0 m s c vo vy) (hb : Below wi.heap.size wi wj) (hg : gc < wi.heap.size) : II w wj p gc cY bs bc S h s0 m s c vo vy :=
  ⟨K.rn.step hb hg, (hb.block _ (blk_lt' K.z1)).trans K.z1, (hb.block _ (blk_lt' K.z2)).trans K.z2, K.inv, K.end_⟩
theorem Rn.dn {w wi : World} {gc cY n : Nat} {Z : Nat → Prop} {s : St} {vo vy : Value} (h : Rn w wi gc cY n Z s vo vy) (h9 : DN w) (hg : 0 < gc) : DN wi := by
  have := h.K.block h9.pos (fun e => by omega)
  refine ⟨?_, ?_⟩
  · have h8 := h9.1
    simp only [World.cell?, this] at h8 ⊢
    exact h8
  · have h8 := h9.2
    simp only [World.cell?, this] at h8 ⊢
    exact h8
theorem OI.next {w wi : World} {p gc cY bs bc : Nat} {S : Ins} {h : Nat → Int} {fs : St} {q : Nat} {s : St} {c : Int} {vo vy : Value} {vo2 vy2 : Value} {wx : World} {s2 : St} (H : OI w wi p gc cY bs bc S h fs (q + 1) s c vo vy) (hlt : s.o.length < S.n) (K : II w wx p gc cY bs bc S h s 0 s2 c vo2 vy2) (hg : gc < wx.heap.size) (hw : w.heap.size ≤ wx.heap.size) (hb : bs < wx.heap.size) :
    OI w (wx.alloc (.cells #[.int .i64 (c + 1)] 3 (0, 0))) p gc cY bs wx.heap.size S h fs q s2 (c + 1) vo2 vy2 := by
  have e1 : s2 = issue S h c S.w s := K.end_
  have ha : (wx.alloc (.cells #[.int .i64 (c + 1)] 3 (0, 0))).heap.size = wx.heap.size + 1 := by simp
  refine ⟨Rn.step (K.rn.zone (fun k hk hz => ?_)) (below_alloc (Below.refl _ wx) _) hg, ?_, heap_alloc_new wx _, K.inv.later (by omega), ⟨by have := H.cb; omega, by have := H.cb; omega⟩, ?_, hw, by omega⟩
  · rcases hz with hz | hz
    · exact .inl hz
    · omega
  · rw [Below.heap_alloc _ _ _ hb]; exact K.z1
  · rw [← H.end_, e1, run, if_pos hlt]
set_option maxRecDepth 100000 in
set_option maxHeartbeats 4000000 in
theorem run_zero {w : World} {p : Nat} {W R : Int} {AL : Option Addr} {cL : Nat} {Lat : List Int} {AI : Option Addr} {cI : Nat} {B : List S48} {AD : Option Addr} {cD : Nat} {AH : Option Addr} {cH : Nat} {T : List Int} {AY : Option Addr} {cY : Nat} {Y : List Int}
    (h : Sf w p W R AL cL Lat AI cI B AD cD AH cH T AY cY Y) (hn : B.length = 0) :
    Calls Tryd.prog 27 #[.pointer (some ⟨p, 0, none⟩)] w fun e w' => e = .returned (.tuple #[.slice none 0 0, .slice none 0 0]) ∧ Below w.heap.size w w' := by
  obtain ⟨w2, hw2⟩ : ∃ w2, w2 = (w.alloc (.cells #[.pointer (some ⟨p, 0, none⟩)] 60 (0, 0))).alloc (.cells #[.int .i64 0] 3 (0, 0)) := ⟨_, rfl⟩
  have B2 : Below w.heap.size w w2 := by rw [hw2]; exact below_alloc (below_alloc (Below.refl _ w) _) _
  have a3' := (h.below B2).c3
  rw [hw2] at a3'
  have c1 : ((w.alloc (.cells #[.pointer (some ⟨p, 0, none⟩)] 60 (0, 0))).alloc (.cells #[.int .i64 0] 3 (0, 0))).cell? ⟨w.heap.size, 0, none⟩ = some (.pointer (some ⟨p, 0, none⟩)) := by
    refine cell_at (p := w.heap.size) (t := 60) (cs := #[.pointer (some ⟨p, 0, none⟩)]) ?_ rfl
    rw [Below.heap_alloc _ _ _ (by simp)]
    exact heap_alloc_new w _
  have hF := Aside0.mk B2
  rw [hn] at a3'
  clear h B2
  go_enter Tryd.func27, Tryd.ntmps27
  go_wp2_with fail
  rw [← hw2] at a3' c1 ⊢
  clear hw2
  have hI0 := Aside0.mk (And.intro a3' c1)
  clear a3' c1
  go_loopg [2, 3, 4] 0 (fun q v2 v3 v4 wi => v2 = .slice none 0 0 ∧ v3 = .slice none 0 0 ∧ v4 = .pointer (some ⟨w.heap.size + 1, 0, none⟩) ∧ Aside0 (wi = w2))
  case atStart => exact ⟨rfl, rfl, rfl, ⟨rfl⟩⟩
  case round =>
    obtain ⟨rfl, rfl, rfl, hw⟩ := hrel
    have c1 := hI0.out.2
    have c3 := hI0.out.1
    rw [← hw.out] at c1 c3 hF
    clear hI0 hw
    go_wp2
    go_ret2
    exact ⟨rfl, hF.out⟩
set_option maxRecDepth 100000 in
set_option maxHeartbeats 4000000 in
theorem run_main {w : World} {p : Nat} {W R : Int} {AL : Option Addr} {cL : Nat} {Lat : List Int} {AI : Option Addr} {cI : Nat} {B : List S48} {AD : Option Addr} {cD : Nat} {AH : Option Addr} {cH : Nat} {T : List Int} {gc cY : Nat}
    (hf : ∀ (wi : World) (t : Nat → Int), Kp (fun k => k = gc) w wi → Kd.R (Kd.int .i64) 3 wi 0 (fun k => k = gc) (.slice (some ⟨gc, 0, none⟩) B.length cY) (tbn B.length t) → Sf wi p W R AL cL Lat AI cI B AD cD AH cH T (some ⟨gc, 0, none⟩) cY (tbn B.length t))
    (hY : Kd.R (Kd.int .i64) 3 w 0 (fun k => k = gc) (.slice (some ⟨gc, 0, none⟩) B.length cY) (tbn B.length st0.t)) (hB : sml B) (hS : Ok (insS W Lat B)) (hW : 0 ≤ W ∧ W ≤ 8) (hT : Hp (insS W Lat B) T 0) (hN : DN w) (hgc : 0 < gc ∧ gc < w.heap.size) :
    Calls Tryd.prog 27 #[.pointer (some ⟨p, 0, none⟩)] w fun e w' => ∃ vo vy s, e = .returned (.tuple #[vo, vy]) ∧ Fin (insS W Lat B) T s ∧ Kd.R (Kd.int .i64) 3 w' 0 (fun k => w.heap.size ≤ k) vo (oL s) ∧ Kd.R (Kd.int .i64) 3 w' 0 (fun k => w.heap.size ≤ k) vy s.y ∧ Kp (fun k => k = gc) w w' := by
  have hl := hB.len
  obtain ⟨f, hf1, hall⟩ := run_all hS (fun i => rd T (i : Int))
  have hnn : (insS W Lat B).n = B.length := rfl
  rw [hnn] at hall hf1
  obtain ⟨bs, hbs⟩ : ∃ bs, bs = w.heap.size := ⟨_, rfl⟩
  obtain ⟨w1, hw1⟩ : ∃ w1, w1 = w.alloc (.cells #[.pointer (some ⟨p, 0, none⟩)] 60 (0, 0)) := ⟨_, rfl⟩
  obtain ⟨w2, hw2⟩ : ∃ w2, w2 = w1.alloc (.cells #[.int .i64 0] 3 (0, 0)) := ⟨_, rfl⟩
  have hs1 : w1.heap.size = w.heap.size + 1 := by rw [hw1]; simp
  have hs2 : w2.heap.size = w.heap.size + 2 := by rw [hw2]; simp [hs1]
  have B2 : Below w.heap.size w w2 := by rw [hw2, hw1]; exact below_alloc (below_alloc (Below.refl _ w) _) _
  have z1 : w2.heap[bs]? = some (.cells #[.pointer (some ⟨p, 0, none⟩)] 60 (0, 0)) := by
    rw [hw2, hbs, Below.heap_alloc _ _ _ (by omega), hw1]
    exact heap_alloc_new w _
  have z2 : w2.heap[bs + 1]? = some (.cells #[.int .i64 0] 3 (0, 0)) := by
    rw [hw2]
    have := heap_alloc_new w1 (.cells #[.int .i64 0] 3 (0, 0))
    rw [hs1, ← hbs] at this
    exact this
  have hR0 : Rn w w2 gc cY B.length (fun k => k = bs ∨ k = bs + 1) st0 (.slice none 0 0) (.slice none 0 0) :=
    ⟨Kp.of_below B2 _, Kd.R_step hY (fun k hk hlt => B2.block k hlt), fun _ => False, fun _ => False, fun k h => h.elim, fun k h => h.elim, fun k h => h.elim, Kd.R_nil _ _ _ _ _, Kd.R_nil _ _ _ _ _⟩
  have hX := Aside0.mk (And.intro hf (And.intro hB (And.intro hS (And.intro hW (And.intro hT (And.intro hN (And.intro hgc hbs)))))))
  have hI0 := Aside0.mk (show OI w w2 p gc cY bs (bs + 1) (insS W Lat B) (fun i => rd T (i : Int)) (run (insS W Lat B) (fun i => rd T (i : Int)) f 0 st0) f st0 0 (.slice none 0 0) (.slice none 0 0) from ⟨hR0, z1, z2, inv0 _ 0 (by omega), ⟨by omega, by omega⟩, rfl, ⟨by omega, by omega⟩⟩)
  have hfin := Aside0.mk (show Fin (insS W Lat B) T (run (insS W Lat B) (fun i => rd T (i : Int)) f 0 st0) from ⟨hT, ⟨f, hf1, rfl⟩, hall⟩)
  obtain ⟨fs, hfs⟩ : ∃ x, run (insS W Lat B) (fun i => rd T (i : Int)) f 0 st0 = x := ⟨_, rfl⟩
  rw [hfs] at hI0 hfin
  clear hf hB hS hW hT hN hgc hY hR0 z1 z2 B2 hfs hf1 hall
  go_enter Tryd.func27, Tryd.ntmps27
  go_wp2_with fail
  rw [← hbs, ← hw1, ← hw2]
  replace hbs := Aside0.mk hbs
  clear hw1 hw2 hs1 hs2
  go_loopg [2, 3, 4] f (fun q v2 v3 v4 wi => ∃ (bc : Nat) (s : St) (c : Int), v4 = .pointer (some ⟨bc, 0, none⟩) ∧ Aside0 (OI w wi p gc cY bs bc (insS W Lat B) (fun i => rd T (i : Int)) fs q s c v2 v3))
  case atStart => exact ⟨bs + 1, st0, 0, rfl, hI0⟩
  case round =>
    obtain ⟨bc, s, c, rfl, hJ⟩ := hrel
    clear hI0
    obtain ⟨P, O, hP, hO, hPO, r1, r2⟩ := hJ.out.rn.ex
    obtain ⟨Ao, co, ev, hx1, C1⟩ := Kd.R_reads r1
    subst ev
    obtain ⟨Ay, cy, ev, hx2, C2⟩ := Kd.R_reads r2
    subst ev
    have hsf := hX.out.1 wr s.t hJ.out.rn.K hJ.out.rn.Y
    have a3 := hsf.c3
    have a0 := hsf.c0.1
    have c1 := cell_at hJ.out.z1 (j := 0) rfl
    have hol : (oL s).length = s.o.length := oL_len s
    clear hP hO hPO r1 r2 C1 C2 hx1 hx2 hsf
    by_cases hlt : s.o.length < B.length
    · have hlti : ((oL s).length : Int) < (B.length : Int) := by omega
      obtain ⟨gk1, rfl⟩ : ∃ q, gk = q + 1 := by
        cases gk with
        | zero => exact absurd (show s.o.length = B.length from by have h1 := hJ.out.end_; rw [run] at h1; rw [h1]; exact hfin.out.all) (by omega)
        | succ q => exact ⟨q, rfl⟩
      have hgk : gk1 < gk1 + 1 := by omega
      obtain ⟨nO, hnO⟩ : ∃ m, (oL s).length = m := ⟨_, rfl⟩
      obtain ⟨nY, hnY⟩ : ∃ m, s.y.length = m := ⟨_, rfl⟩
      have hJ0 : Aside0 (II w wr p gc cY bs bc (insS W Lat B) (fun i => rd T (i : Int)) s (insS W Lat B).w s c (.slice Ao nO co) (.slice Ay nY cy)) := ⟨by rw [← hnO, ← hnY]; exact ⟨hJ.out.rn, hJ.out.z1, hJ.out.z2, hJ.out.inv, rfl⟩⟩
      rw [hnO] at hlti ⊢
      rw [hnY]
      clear hol
      have hsl := Aside0.mk (And.intro hlt (And.intro hnO hnY))
      clear hnO hnY hlt
      have hWW := Aside0.mk hX.out.2.2.2.1
      go_wp2_with fail
      clear a3 a0 c1
      go_loopg [2, 3, 21] W.toNat (fun m v2 v3 v21 wi => ∃ (j : Nat) (s2 : St), j + m = W.toNat ∧ v21 = .int .i64 (j : Int) ∧ Aside0 (II w wi p gc cY bs bc (insS W Lat B) (fun i => rd T (i : Int)) s m s2 c v2 v3))
      case atStart => exact ⟨0, s, by omega, rfl, hJ0⟩
      case round =>
        obtain ⟨j, s2, hj, rfl, hK⟩ := hrel
        clear hJ0
        have hW1 := hWW.out
        by_cases hjw : j < W.toNat
        · have hjwi : (j : Int) < W := by omega
          obtain ⟨gk2, rfl⟩ : ∃ q, gk = q + 1 := ⟨gk - 1, by omega⟩
          have hj1 : j + 1 + gk2 = W.toNat := by omega
          have hgk2 : gk2 < gk2 + 1 := by omega
          have hsf := hX.out.1 wr s2.t hK.out.rn.K hK.out.rn.Y
          have c1 := cell_at hK.out.z1 (j := 0) rfl
          have hDN : DN wr := hK.out.rn.dn hX.out.2.2.2.2.2.1 hX.out.2.2.2.2.2.2.1.1
          have hcb := hJ.out.cb
          have hbest := Aside0.mk (best_any hsf hX.out.2.1 hX.out.2.2.1 (fun k hk => by
            have h1 := hK.out.inv.hi k hk
            have h2 := hK.out.inv.neg k
            omega) (by omega) hX.out.2.2.2.2.1 hDN c1 (cell_at hK.out.z2 (j := 0) rfl))
          clear hsf hDN hW1
          obtain ⟨pb, hpb⟩ : ∃ x, pick (rdy (insS W Lat B) s2.t c) (fun i => rd T (i : Int)) B.length = x := ⟨_, rfl⟩
          rw [hpb] at hbest
          go_wp2_with fail
          refine hbest.out.mono ?_
          rintro e' w3 ⟨rfl, B3⟩
          have hgr := Nat.lt_of_lt_of_le hX.out.2.2.2.2.2.2.1.2 hK.out.rn.K.size
          have hK3 := Aside0.mk (hK.out.step B3 hgr)
          have hg3 : gc < w3.heap.size := Nat.lt_of_lt_of_le hgr B3.size
          obtain ⟨ou, hou⟩ : ∃ x, ouV T pb = x := ⟨_, rfl⟩
          rw [hou]
          obtain ⟨w4, hw4⟩ : ∃ w4, w4 = w3.alloc (.cells #[.int .i64 ou.1, .int .i64 ou.2] 79 (0, 0)) := ⟨_, rfl⟩
          obtain ⟨g5, hg5⟩ : ∃ g5, g5 = w3.heap.size := ⟨_, rfl⟩
          have B4 : Below w3.heap.size w3 w4 := by rw [hw4]; exact below_alloc (Below.refl _ w3) _
          have hK4 := Aside0.mk (hK3.out.step B4 hg3)
          have z5 : w4.heap[g5]? = some (.cells #[.int .i64 ou.1, .int .i64 ou.2] 79 (0, 0)) := by rw [hw4, hg5]; exact heap_alloc_new w3 _
          have hDN := hK4.out.rn.dn hX.out.2.2.2.2.2.1 hX.out.2.2.2.2.2.2.1.1
          have n1 := hDN.1
          have n2 := hDN.2
          have hg4 := Aside0.mk (show gc < w4.heap.size ∧ gc ≠ g5 from ⟨Nat.lt_of_lt_of_le hg3 B4.size, by omega⟩)
          rw [hw4] at n1 n2
          have z5' := Aside0.mk z5
          clear hK hK3 B3 hbest c1 hgr hDN B4 z5 hg3
          cases pb with
          | none =>
            obtain rfl : (-1, -1) = ou := hou
            have hKe : Aside0 (II w w4 p gc cY bs bc (insS W Lat B) (fun i => rd T (i : Int)) s 0 s2 c u2 u3) := ⟨hK4.out.rn, hK4.out.z1, hK4.out.z2, hK4.out.inv, by have h9 := hK4.out.end_; rw [issue] at h9; rw [show pick (rdy (insS W Lat B) s2.t c) (fun i => rd T (i : Int)) (insS W Lat B).n = none from hpb] at h9; rw [issue]; exact h9⟩
            clear hK4 hpb z5'
            go_upto_region 11 with (fail)
            clear n1 n2
            rw [← hw4]
            clear hw4 hg4 hg5
            have c2 := cell_at hKe.out.z2 (j := 0) rfl
            have hszx := hKe.out.rn.K.size
            have hc1 : IntKind.i64.wrap (c + 1) = c + 1 := (IntKind.wrap_i64 _).trans (by have := hJ.out.cb; omega)
            have hO1 := Aside0.mk (OI.next hJ.out hsl.out.1 hKe.out (Nat.lt_of_lt_of_le hX.out.2.2.2.2.2.2.1.2 hszx) hszx (blk_lt' hKe.out.z1))
            clear hKe hszx
            go_wp2_with fail
            go_roundg gk1
            case rel => exact ⟨_, _, c + 1, rfl, hO1⟩
            case measure => exact hgk
          | some k =>
            have hkm := pick_mem hpb
            obtain rfl : (rd T (k : Int), (k : Int)) = ou := hou
            have hTk := hX.out.2.2.2.2.1.bd hX.out.2.2.1 (B.length - k) k (by show k + (B.length - k) = B.length; omega) (Nat.zero_le _) hkm.1
            obtain ⟨hk9, hhk⟩ : ∃ x, rd T (k : Int) = x := ⟨_, rfl⟩
            have d1 : (hk9 == -1) = false := by rw [beq_eq_false_iff_ne]; omega
            rw [hhk] at hw4 n1 n2 z5' ⊢
            have hkl : k < B.length := hkm.1
            have hkl1 : (k : Int) < (B.length : Int) := by omega
            have hkl0 : (0 : Int) ≤ (k : Int) := by omega
            go_upto_region 8 with (fail)
            rw [← hw4]
            rw [← hg5]
            have hsf := hX.out.1 w4 s2.t hK4.out.rn.K hK4.out.rn.Y
            have c1 := cell_at hK4.out.z1 (j := 0) rfl
            have c2 := cell_at hK4.out.z2 (j := 0) rfl
            have c6 := hsf.c6
            have e2 := cell_at z5'.out (j := 1) rfl
            obtain ⟨v0, v1⟩ := Kd.R_celln 0 hK4.out.rn.Y (k : Int) hkl0 hkl1
            rw [Int.toNat_natCast] at v0 v1
            clear n1 n2 hw4 hTk hhk hsf hg5 d1
            refine still_tail 8 (by kernel_rfl) (by kernel_rfl) ?_
            simp only [List.take_succ_cons, List.take_zero, List.drop_succ_cons, List.drop_zero]
            repeat still_step
            refine wpStill_nil ?_
            go_upto_region 9 with (fail)
            have hrs := hK4.out.rn.store hX.out.2.2.2.2.2.2.1.2 k c
            have hbb := hJ.out.bb
            obtain ⟨w5, hw5⟩ : ∃ w5, w5 = (w4.setCell ⟨gc, k, none⟩ (.int .i64 c)).drew := ⟨_, rfl⟩
            have c2' : w5.cell? ⟨bc, 0, none⟩ = some (.int .i64 c) := by
              rw [hw5]
              refine cell_at (p := bc) (t := 3) (cs := #[.int .i64 c]) ?_ rfl
              exact (Below.heap_setCell w4 ⟨gc, k, none⟩ _ bc (fun e => by have e : bc = gc := e; have := hX.out.2.2.2.2.2.2.1.2; omega)).trans hK4.out.z2
            have e2' : w5.cell? ⟨g5, 1, none⟩ = some (.int .i64 (k : Int)) := by
              rw [hw5]
              refine cell_at (p := g5) (t := 79) (cs := #[.int .i64 hk9, .int .i64 (k : Int)]) ?_ rfl
              exact (Below.heap_setCell w4 ⟨gc, k, none⟩ _ g5 (fun e => by have e : g5 = gc := e; have := hg4.out.2; omega)).trans z5'.out
            have z1' : w5.heap[bs]? = some (.cells #[.pointer (some ⟨p, 0, none⟩)] 60 (0, 0)) := by
              rw [hw5]
              exact (Below.heap_setCell w4 ⟨gc, k, none⟩ _ bs (fun e => by have e : bs = gc := e; have := hX.out.2.2.2.2.2.2.1.2; have := hbs.out; omega)).trans hK4.out.z1
            have z2' : w5.heap[bc]? = some (.cells #[.int .i64 c] 3 (0, 0)) := by
              rw [hw5]
              exact (Below.heap_setCell w4 ⟨gc, k, none⟩ _ bc (fun e => by have e : bc = gc := e; have := hX.out.2.2.2.2.2.2.1.2; omega)).trans hK4.out.z2
            have hsz5 : w5.heap.size = w4.heap.size := by rw [hw5]; simp
            have hrs2 : Kp (fun k => k = gc) w w5 ∧ Kd.R (Kd.int .i64) 3 w5 0 (fun k => k = gc) (.slice (some ⟨gc, 0, none⟩) (insS W Lat B).n cY) (tbn (insS W Lat B).n (s2.put k c).t) ∧
                ∃ P O : Nat → Prop, (∀ k, P k → w.heap.size ≤ k ∧ k < w5.heap.size ∧ ¬ (k = bs ∨ k = bc)) ∧ (∀ k, O k → w.heap.size ≤ k ∧ k < w5.heap.size ∧ ¬ (k = bs ∨ k = bc)) ∧ (∀ k, P k → ¬ O k) ∧ Kd.R (Kd.int .i64) 3 w5 0 P u2 (oL s2) ∧ Kd.R (Kd.int .i64) 3 w5 0 O u3 s2.y := by
              obtain ⟨q1, q2, P, O, q3, q4, q5, q6, q7⟩ := hrs
              rw [hsz5, hw5]
              exact ⟨q1.drew, Kd.R_drew q2, P, O, q3, q4, q5, Kd.R_drew q6, Kd.R_drew q7⟩
            rw [← hw5]
            obtain ⟨q1, q2, P, O, q3, q4, q5, q6, q7⟩ := hrs2
            have hG := Aside0.mk (And.intro q1 (And.intro q2 (And.intro q3 (And.intro q4 (And.intro q5 (And.intro q6 (And.intro q7 (And.intro z1' z2'))))))))
            have hI9 := hK4.out.inv.put (by have := hJ.out.cb; omega) hkm.1 hkm.2
            have hE9 : issue (insS W Lat B) (fun i => rd T (i : Int)) c gk2 (s2.put k c) = issue (insS W Lat B) (fun i => rd T (i : Int)) c (insS W Lat B).w s := by
              have h9 := hK4.out.end_
              rw [issue, show pick (rdy (insS W Lat B) s2.t c) (fun i => rd T (i : Int)) (insS W Lat B).n = some k from hpb] at h9
              exact h9
            have hol : (oL s2).length ≤ 60 ∧ s2.y.length ≤ 60 := by
              have h1 := hK4.out.inv.le
              have h2 := hK4.out.inv.yl
              have h3 : s2.o.length ≤ B.length := h1
              rw [oL_len]; omega
            have hM := Aside0.mk (And.intro hI9 (And.intro hE9 (And.intro hol hsz5)))
            clear hrs c1 c2 c6 e2 v0 v1 q1 q2 q3 q4 q5 q6 q7 z1' z2' hw5 hI9 hE9 hol hsz5 hbb hK4 hpb hkm z5' hkl hkl1 hkl0
            have c2a : (w5.alloc (.cells #[.int .i64 (k : Int)] 3 (0, 0))).cell? ⟨bc, 0, none⟩ = some (.int .i64 c) := (cell_blk (Below.heap_alloc _ _ _ (World.block_lt_of_cell? _ _ c2'))).trans c2'
            have e2a : (w5.alloc (.cells #[.int .i64 c] 3 (0, 0))).cell? ⟨g5, 1, none⟩ = some (.int .i64 (k : Int)) := (cell_blk (Below.heap_alloc _ _ _ (World.block_lt_of_cell? _ _ e2'))).trans e2'
            have hq6 : Kd.R (Kd.int .i64) 3 w5 0 (fun q => P q ∨ w5.heap.size ≤ q) u2 (oL s2) := Kd.R_mono hG.out.2.2.2.2.2.1 (fun q hq => .inl hq)
            go_region_law (first
              | ((refine Kd.R_append_rows_step (Kd.int .i64) (Rr := fun x c => c = [Value.int .i64 x]) (w0 := w5) 0 (by rfl) (.tmp 37) (.tmp 40) 22 3 (.int .i64 0) 8 (by rfl) Tryd.underlying22 info3 rfl (by decide) (by decide) u2 (oL s2) [(k : Int)] _ 1 1 (fun q => P q ∨ w5.heap.size ≤ q) (fun _ => False) (by rfl) (by rfl) ?_ ?_ ?_ ?_ ?_ ?_ (Nat.zero_le _) ?_ ?_)
                 · (with_reducible repeat (first | apply Kd.R_alloc | apply Kd.R_drewN | apply Kd.R_drew)); exact hq6
                 · refine rr_lit _ _ _ ?_; first | exact new0 w5 _ | exact new1 w5 _ _ | exact new2 w5 _ _
                 · intro x cs h; subst h; rfl
                 · intro q hq; exact hq.elim
                 · intro q hq; exact .inr (by simp at hq; omega)
                 · exact (Kp.of_below (W := _) (by first | exact below_drew (Below.refl _ _) | exact below_alloc (below_drew (Below.refl _ _)) _ | exact below_alloc (below_alloc (below_drew (Below.refl _ _)) _) _ | exact below_drew (below_alloc (Below.refl _ _) _) | exact below_drew (below_alloc (below_alloc (Below.refl _ _) _) _)) (fun _ => False)).belowB (fun _ h => h.elim) (Nat.zero_le _)
                 · have := hM.out.2.2.1.1; omega
                 intro v1 wa hRA hBA hgA hatA
                 have hub : ∀ q, u2.ownBlock = some q → P q := hG.out.2.2.2.2.2.1.1
                 have hnew : ∀ q, w5.heap.size ≤ q → some q ≠ u2.ownBlock := fun q hq e => by have := (hG.out.2.2.1 q (hub q e.symm)).2.1; omega
                 have hBA1 := Aside0.mk (bel_of (w5 := w5) hgA (by first | exact below_drew (Below.refl _ _) | exact below_alloc (below_drew (Below.refl _ _)) _ | exact below_alloc (below_alloc (below_drew (Below.refl _ _)) _) _ | exact below_drew (below_alloc (Below.refl _ _) _) | exact below_drew (below_alloc (below_alloc (Below.refl _ _) _) _)))
                 have cA : wa.cell? ⟨bc, 0, none⟩ = some (.int .i64 c) := (cell_blk (hgA.block bc (Nat.lt_of_lt_of_le (blk_lt' hG.out.2.2.2.2.2.2.2.2) hBA1.out.size) (fun e => (hG.out.2.2.1 bc (hub bc e.symm)).2.2 (.inr rfl)))).trans ((hBA1.out.cell (p := ⟨bc, 0, none⟩) (blk_lt' hG.out.2.2.2.2.2.2.2.2)).trans (cell_at hG.out.2.2.2.2.2.2.2.2 rfl))
                 first
                   | have lB : wa.cell? ⟨w5.heap.size + 1, 0, none⟩ = some (.int .i64 c) := (cell_blk (hgA.block (w5.heap.size + 1) (by simp) (hnew _ (by omega)))).trans (new2 w5 (.int .i64 c) _)
                   | have lB : wa.cell? ⟨w5.heap.size, 0, none⟩ = some (.int .i64 c) := (cell_blk (hgA.block w5.heap.size (by simp; omega) (hnew _ (by omega)))).trans (new1 w5 (.int .i64 c) _)
                   | skip
                 have hY1 : Kd.R (Kd.int .i64) 3 wa 0 (fun q => O q ∨ w5.heap.size ≤ q) u3 s2.y := Kd.R_mono (Kd.R_step (Kd.R_step hG.out.2.2.2.2.2.2.1 (fun q hq hlt => hBA1.out.block q hlt)) (fun q hq hlt => hgA.block q hlt (fun e => hG.out.2.2.2.2.1 q (hub q e.symm) hq))) (fun q hq => .inl hq))
              | ((refine Kd.R_append_rows_step (Kd.int .i64) (Rr := fun x c => c = [Value.int .i64 x]) (w0 := w5) 0 (by rfl) (.tmp 42) (.tmp 44) 22 3 (.int .i64 0) 8 (by rfl) Tryd.underlying22 info3 rfl (by decide) (by decide) u3 s2.y [c] _ 1 1 (fun q => O q ∨ w5.heap.size ≤ q) (fun _ => False) (by rfl) (by rfl) ?_ ?_ ?_ ?_ ?_ ?_ (Nat.zero_le _) ?_ ?_)
                 · (with_reducible repeat (first | apply Kd.R_alloc | apply Kd.R_drewN | apply Kd.R_drew)); exact hY1
                 · refine rr_lit _ _ _ ?_; first | exact new0 wa _ | exact lB
                 · intro x cs h; subst h; rfl
                 · intro q hq; exact hq.elim
                 · intro q hq; have h1 := hBA1.out.size; have h2 := hgA.size; exact .inr (by first | (simp at hq; omega) | omega)
                 · first | exact hBA | exact hBA.trans ((below_alloc (Below.refl _ wa) _).mono (Nat.zero_le _))
                 · have := hM.out.2.2.1.2; omega
                 intro v2 wb hRB hBB hgB hatB))
            all_goals
              have hap := Rn.app (n := (insS W Lat B).n) (cY := cY) (Z := fun q => q = bs ∨ q = bc) hX.out.2.2.2.2.2.2.1.2 hG.out.1 hG.out.2.1 hG.out.2.2.1 hG.out.2.2.2.1 hG.out.2.2.2.2.1 hG.out.2.2.2.2.2.1 hG.out.2.2.2.2.2.2.1 (fun q hq => by
                rcases hq with rfl | rfl
                · exact blk_lt' hG.out.2.2.2.2.2.2.2.1
                · exact blk_lt' hG.out.2.2.2.2.2.2.2.2) hBA1.out hgA hRA hatA (bel_of hgB (by first | exact Below.refl _ _ | exact below_alloc (Below.refl _ _) _ | exact below_drew (Below.refl _ _) | exact below_drew (below_alloc (Below.refl _ _) _))) hgB hRB hatB
              have hI1 : Aside0 (II w wb p gc cY bs bc (insS W Lat B) (fun i => rd T (i : Int)) s gk2 (s2.put k c) c v1 v2) := ⟨hap.1, (hap.2 bs (.inl rfl)).trans hG.out.2.2.2.2.2.2.2.1, (hap.2 bc (.inr rfl)).trans hG.out.2.2.2.2.2.2.2.2, hM.out.1, hM.out.2.1⟩
              clear hap hBA1 hgA hRA hatA hgB hRB hatB hBA hBB hY1 hnew hub cA c2a e2a hq6 c2' e2'
              try clear lB
              have hj8 : j < 8 := by have := hWW.out; omega
              go_wp2_with fail
              go_roundg gk2
              case rel => exact ⟨j + 1, s2.put k c, hj1, by go_num, hI1⟩
              case measure => exact hgk2
        · have hKe : Aside0 (II w wr p gc cY bs bc (insS W Lat B) (fun i => rd T (i : Int)) s 0 s2 c u2 u3) := by
            obtain rfl : gk = 0 := by omega
            exact hK
          have hjw2 : ¬ (j : Int) < W := by omega
          clear hK hjw hW1
          have c2 := cell_at hKe.out.z2 (j := 0) rfl
          have hszx := hKe.out.rn.K.size
          have hc1 : IntKind.i64.wrap (c + 1) = c + 1 := (IntKind.wrap_i64 _).trans (by have := hJ.out.cb; omega)
          have hO1 := Aside0.mk (OI.next hJ.out hsl.out.1 hKe.out (Nat.lt_of_lt_of_le hX.out.2.2.2.2.2.2.1.2 hszx) hszx (blk_lt' hKe.out.z1))
          clear hKe hszx
          go_wp2_with fail
          go_roundg gk1
          case rel => exact ⟨_, _, c + 1, rfl, hO1⟩
          case measure => exact hgk
    · have hdone : s = fs := by
        have h1 := hJ.out.end_
        cases gk with
        | zero => rw [run] at h1; exact h1
        | succ q => rw [run, if_neg (show ¬ s.o.length < (insS W Lat B).n from hlt)] at h1; exact h1
      have hle := hJ.out.inv.le
      obtain rfl := hdone
      have hle2 : s.o.length ≤ B.length := hle
      have hge : ¬ ((oL s).length : Int) < (B.length : Int) := by omega
      have hF := Aside0.mk hJ.out.rn
      obtain ⟨nO, hnO⟩ : ∃ m, (oL s).length = m := ⟨_, rfl⟩
      obtain ⟨nY, hnY⟩ : ∃ m, s.y.length = m := ⟨_, rfl⟩
      rw [hnO, hnY] at hF
      rw [hnO] at hge ⊢
      rw [hnY]
      clear hJ hX hlt hle hle2 hol hnO hnY
      go_wp2
      go_ret2
      obtain ⟨P, O, hP, hO, hPO, r1, r2⟩ := hF.out.ex
      exact ⟨_, _, rfl, s, hfin.out, Kd.R_mono r1 (fun k hk => (hP k hk).1), Kd.R_mono r2 (fun k hk => (hO k hk).1), hF.out.K⟩
end Go.Proofs.YtjacphcbiaacnaaDoor
end

section
set_option linter.unusedVariables false
set_option linter.unusedSimpArgs false
set_option linter.unusedSectionVars false
namespace Go.Proofs.YtjacphcbiaacnaaDoor
open Go.RowKit Go.Proofs.YtjacphcbiaacnaaDoorW.PrintWords Go.Proofs.YtjacphcbiaacnaaDoor.PDigraphTells Sc
structure Hr (S : Ins) (T : List Int) (k : Nat) (V : Nat → Prop) : Prop where
 hp : Hp S T k
 ze : ∀ i, i < k → i < S.n → rd T (i : Int) = 0 ∨ ∃ q, k ≤ q ∧ q < S.n ∧ S.D q i = true ∧ rd T (i : Int) = S.dl i q + rd T (q : Int)
 po : ∀ i, i < k → i < S.n → 0 ≤ rd T (i : Int)
 up : ∀ i q, i < k → i < S.n → k ≤ q → q < S.n → (q = k → V i) → S.D q i = true → S.dl i q + rd T (q : Int) ≤ rd T (i : Int)
theorem rd_setn {T : List Int} {i : Nat} (hi : i < T.length) (x : Int) (a : Nat) : rd (T.set i x) (a : Int) = if a = i then x else rd T (a : Int) := by
 have := rd_set T (i : Int) x (a : Int) (by omega) (by omega) (by omega)
 rw [Int.toNat_natCast] at this
 rw [this]
 by_cases e : a = i
 ·rw [if_pos (by omega), if_pos e]
 ·rw [if_neg (by omega), if_neg e]
theorem rd_rep (n : Nat) (i : Nat) : rd (List.replicate n 0) (i : Int) = 0 := by
 unfold rd
 rw [List.getD_eq_getElem?_getD, List.getElem?_replicate]
 split <;> rfl
theorem Hr.start (S : Ins) : Hr S (List.replicate S.n 0) S.n (fun _ => True) :=
 ⟨⟨by simp, fun i h1 h2 => by omega, fun i h1 h2 => by omega, fun i k h1 h2 h3 => by omega⟩, fun i _ _ => .inl (rd_rep _ _), fun i _ _ => by rw [rd_rep]; omega, fun i q _ _ h1 h2 => by omega⟩
theorem Hr.store {S : Ins} (hS : Ok S) {T : List Int} {k : Nat} (h : Hr S T (k + 1) (fun _ => True)) (hk : k < S.n) {x : Int} (hx : (x = rd T (k : Int) ∨ x = S.lt k) ∧ rd T (k : Int) ≤ x ∧ S.lt k ≤ x) : Hr S (T.set k x) k (fun _ => False) := by
 have hr := rd_setn (T := T) (i := k) (by rw [h.hp.len]; exact hk) x
 have h1 := (hS.lt1 k).1
 refine ⟨⟨by rw [List.length_set]; exact h.hp.len, fun i hi hn => ?_, fun i hi hn => ?_, fun i q hi h2 h3 h4 => ?_⟩, fun i hi hn => ?_, fun i hi hn => ?_, fun i q hi hn h2 h3 h4 h5 => ?_⟩
 ·by_cases e : i = k
  ·subst e
   rw [hr, if_pos rfl]
   rcases hx.1 with e1 | e1
   ·rcases h.ze i (by omega) hn with e2 | ⟨q, q1, q2, q3, q4⟩
    ·omega
    ·exact .inr ⟨q, by omega, q2, q3, by rw [hr, if_neg (by omega), e1]; exact q4⟩
   ·exact .inl e1
  ·rw [hr, if_neg e]
   rcases h.hp.eq i (by omega) hn with e1 | ⟨q, q1, q2, q3, q4⟩
   ·exact .inl e1
   ·exact .inr ⟨q, q1, q2, q3, by rw [hr, if_neg (by omega)]; exact q4⟩
 ·by_cases e : i = k
  ·subst e; rw [hr, if_pos rfl]; exact hx.2.2
  ·rw [hr, if_neg e]; exact h.hp.lo i (by omega) hn
 ·rw [hr q, if_neg (by omega)]
  by_cases e : i = k
  ·subst e
   rw [hr, if_pos rfl]
   have := h.up i q (by omega) (by omega) (by omega) h3 (fun _ => trivial) h4
   omega
  ·rw [hr, if_neg e]; exact h.hp.up i q (by omega) h2 h3 h4
 ·rw [hr, if_neg (by omega)]
  rcases h.ze i (by omega) hn with e1 | ⟨q, q1, q2, q3, q4⟩
  ·exact .inl e1
  ·exact .inr ⟨q, by omega, q2, q3, by rw [hr, if_neg (by omega)]; exact q4⟩
 ·rw [hr, if_neg (by omega)]; exact h.po i (by omega) hn
 ·have hq : q ≠ k := fun e => (h4 e).elim
  rw [hr, if_neg (by omega), hr, if_neg (by omega)]
  exact h.up i q (by omega) hn (by omega) h3 (fun _ => trivial) h5
theorem Hr.relax {S : Ins} {T : List Int} {k : Nat} {V V' : Nat → Prop} (h : Hr S T k V) (hk : k < S.n) {i : Nat} (hi : i < k) (hd : S.D k i = true) {x : Int} (hx : (x = rd T (i : Int) ∨ x = S.dl i k + rd T (k : Int)) ∧ rd T (i : Int) ≤ x ∧ S.dl i k + rd T (k : Int) ≤ x) (hV : ∀ a, V' a → V a ∨ a = i) : Hr S (T.set i x) k V' := by
 have hr := rd_setn (T := T) (i := i) (by rw [h.hp.len]; omega) x
 refine ⟨⟨by rw [List.length_set]; exact h.hp.len, fun a ha hn => ?_, fun a ha hn => ?_, fun a q ha h2 h3 h4 => ?_⟩, fun a ha hn => ?_, fun a ha hn => ?_, fun a q ha hn h2 h3 h4 h5 => ?_⟩
 ·rw [hr, if_neg (by omega)]
  rcases h.hp.eq a (by omega) hn with e1 | ⟨q, q1, q2, q3, q4⟩
  ·exact .inl e1
  ·exact .inr ⟨q, q1, q2, q3, by rw [hr, if_neg (by omega)]; exact q4⟩
 ·rw [hr, if_neg (by omega)]; exact h.hp.lo a ha hn
 ·rw [hr, if_neg (by omega), hr, if_neg (by omega)]; exact h.hp.up a q ha h2 h3 h4
 ·by_cases e : a = i
  ·subst e
   rw [hr, if_pos rfl]
   rcases hx.1 with e1 | e1
   ·rcases h.ze a ha hn with e2 | ⟨q, q1, q2, q3, q4⟩
    ·exact .inl (by omega)
    ·exact .inr ⟨q, q1, q2, q3, by rw [hr, if_neg (by omega), e1]; exact q4⟩
   ·exact .inr ⟨k, Nat.le_refl _, hk, hd, by rw [hr, if_neg (by omega)]; exact e1⟩
  ·rw [hr, if_neg e]
   rcases h.ze a ha hn with e1 | ⟨q, q1, q2, q3, q4⟩
   ·exact .inl e1
   ·exact .inr ⟨q, q1, q2, q3, by rw [hr, if_neg (by omega)]; exact q4⟩
 ·by_cases e : a = i
  ·subst e; rw [hr, if_pos rfl]; have := h.po a ha hn; omega
  ·rw [hr, if_neg e]; exact h.po a ha hn
 ·rw [hr q, if_neg (by omega)]
  by_cases e : a = i
  ·subst e
   rw [hr, if_pos rfl]
   by_cases e2 : q = k
   ·subst e2; exact hx.2.2
   ·have := h.up a q ha hn h2 h3 (fun e3 => (e2 e3).elim) h5
    omega
  ·rw [hr, if_neg e]
   exact h.up a q ha hn h2 h3 (fun e3 => (hV a (h4 e3)).resolve_right e) h5
theorem Hr.done {S : Ins} {T : List Int} {k : Nat} {V : Nat → Prop} (h : Hr S T k V) (hV : ∀ i, i < k → S.D k i = true → V i) : Hr S T k (fun _ => True) :=
 ⟨h.hp, h.ze, h.po, fun i q h1 h2 h3 h4 h5 h6 => h.up i q h1 h2 h3 h4 (fun e => hV i h1 (e ▸ h6)) h6⟩
theorem Hr.bd {S : Ins} (hS : Ok S) {T : List Int} {k : Nat} {V : Nat → Prop} (h : Hr S T k V) (i : Nat) (hi : i < S.n) : 0 ≤ rd T (i : Int) ∧ rd T (i : Int) ≤ 20000 := by
 have hn := hS.n100
 have key : ∀ q, k ≤ q → q < S.n → 1 ≤ rd T (q : Int) ∧ rd T (q : Int) ≤ 10000 := fun q h1 h2 => by
  have := h.hp.bd hS (S.n - q) q (by omega) h1 h2
  omega
 by_cases e : i < k
 ·refine ⟨h.po i e hi, ?_⟩
  rcases h.ze i e hi with e1 | ⟨q, q1, q2, q3, q4⟩
  ·omega
  ·have := (key q q1 q2).2
   have := (hS.dl1 i q).2
   omega
 ·have := key i (by omega) hi
  omega
def cyM (n m : Nat) : List Int := tbn n (fun i => if m ≤ i then -1 else 0)
theorem cyM_set {n k : Nat} (hk : k < n) : (cyM n (k + 1)).set k (-1) = cyM n k := by
 unfold cyM
 rw [tbn_set]
 refine tbn_ext fun i hi => ?_
 by_cases e : i = k
 ·rw [if_pos e, if_pos (by omega)]
 ·rw [if_neg e]
  by_cases e2 : k + 1 ≤ i
  ·rw [if_pos e2, if_pos (by omega)]
  ·rw [if_neg e2, if_neg (by omega)]
theorem cyM_start (n : Nat) : List.replicate n 0 = cyM n n := by
 refine rd_ext (by simp [cyM, tbn_len]) fun i hi => ?_
 rw [rd_rep]
 have hi : i < n := by simpa using hi
 unfold cyM
 rw [tbn_rd _ hi, if_neg (by omega)]
theorem cyM_end (n : Nat) : cyM n 0 = tbn n st0.t := tbn_ext fun i hi => by rw [if_pos (Nat.zero_le _)]; rfl
end Go.Proofs.YtjacphcbiaacnaaDoor
end

section
set_option linter.unusedVariables false
set_option linter.unusedSimpArgs false
set_option linter.unusedSectionVars false
namespace Go.Proofs.YtjacphcbiaacnaaDoor
open Go.RowKit Go.Proofs.YtjacphcbiaacnaaDoorW.PrintWords Go.Proofs.YtjacphcbiaacnaaDoor.PDigraphTells Mem Sc
structure Bk (w : World) (AL : Option Addr) (cL : Nat) (Lat : List Int) (AP : Option Addr) (cP : Nat) (P : List Int) (AI : Option Addr) (cI : Nat) (B : List S48) (A3 : Option Addr) (c3 : Nat) (t1 : List Int) (A4 : Option Addr) (c4 : Nat) (t2 : List Int) (A5 : Option Addr) (c5 : Nat) (t3 : List S98) : Prop where
  rL : Kd.C (Kd.int .i64) w AL Lat.length Lat
  hL : Lat.length ≤ cL
  rP : Kd.C (Kd.int .i64) w AP P.length P
  hP : P.length ≤ cP
  rI : Kd.C k48 w AI B.length B
  hI : B.length ≤ cI
  r1 : Kd.C (Kd.int .i64) w A3 t1.length t1
  h1 : t1.length ≤ c3
  r2 : Kd.C (Kd.int .i64) w A4 t2.length t2
  h2 : t2.length ≤ c4
  r3 : Kd.C k98 w A5 t3.length t3
  h3 : t3.length ≤ c5
section
variable {w w' : World} {W R : Int} {AL : Option Addr} {cL : Nat} {Lat : List Int} {AP : Option Addr} {cP : Nat} {P : List Int} {AI : Option Addr} {cI : Nat} {B : List S48} {A3 : Option Addr} {c3 : Nat} {t1 : List Int} {A4 : Option Addr} {c4 : Nat} {t2 : List Int} {A5 : Option Addr} {c5 : Nat} {t3 : List S98} {t0 t4 : Int}
theorem Bk.below (h : Bk w AL cL Lat AP cP P AI cI B A3 c3 t1 A4 c4 t2 A5 c5 t3) (hb : Below w.heap.size w w') : Bk w' AL cL Lat AP cP P AI cI B A3 c3 t1 A4 c4 t2 A5 c5 t3 :=
  ⟨Kd.C_below h.rL hb, h.hL, Kd.C_below h.rP hb, h.hP, Kd.C_below h.rI hb, h.hI, Kd.C_below h.r1 hb, h.h1, Kd.C_below h.r2 hb, h.h2, Kd.C_below h.r3 hb, h.h3⟩
theorem deps_any (h : Bk w AL cL Lat AP cP P AI cI B A3 c3 t1 A4 c4 t2 A5 c5 t3) (hB : sml B) (t0 t4 : Int) :
    Calls Tryd.prog 18 #[.agg #[.slice AP P.length cP, .slice AI B.length cI, .int .i64 t0, .slice A3 t1.length c3, .slice A4 t2.length c4, .slice A5 t3.length c5, .int .i64 t4]] w fun e w' => ∃ v, e = .returned v ∧ Kd.S (Kd.slice 3 (Kd.int .i64)) 22 w' w.heap.size (fun _ => True) v (depL B) ∧ Below w.heap.size w w' := by
  obtain ⟨k, hk⟩ := (deps_f P B t0 t1 t2 t3 t4 hB).get
  exact sched_Dependences.calls k AP cP P AI cI B t0 A3 c3 t1 A4 c4 t2 A5 c5 t3 t4 (depL B) w h.rP h.hP h.rI h.hI h.r1 h.h1 h.r2 h.h2 h.r3 h.h3 hk
def NS (w : World) (W R : Int) (AL : Option Addr) (cL : Nat) (Lat : List Int) (AI : Option Addr) (cI : Nat) (B : List S48) (e : Ending) (w' : World) : Prop :=
  ∃ p AD cD AH cH T AY cY, e = .returned (.pointer (some ⟨p, 0, none⟩)) ∧ Hp (insS W Lat B) T 0 ∧ Sf w' p W R AL cL Lat AI cI B AD cD AH cH T AY cY (tbn B.length st0.t) ∧ Below w.heap.size w w' ∧
    (0 < B.length → ∃ gc, AY = some ⟨gc, 0, none⟩ ∧ w.heap.size ≤ gc ∧ gc < w'.heap.size ∧ Kd.R (Kd.int .i64) 3 w' 0 (fun k => k = gc) (.slice AY B.length cY) (tbn B.length st0.t) ∧
      ∀ (wi : World) (t : Nat → Int), Kp (fun k => k = gc) w' wi → Kd.R (Kd.int .i64) 3 wi 0 (fun k => k = gc) (.slice AY B.length cY) (tbn B.length t) → Sf wi p W R AL cL Lat AI cI B AD cD AH cH T AY cY (tbn B.length t))
theorem own_form {e : Nat} {W0 : World} {base : Nat} {ok : Nat → Prop} {v : Value} {xs : List Int} {b : Nat} (h : Kd.R (Kd.int .i64) e W0 base ok v xs) (hv : v.ownBlock = some b) : ∃ c, v = .slice (some ⟨b, 0, none⟩) xs.length c ∧ xs.length ≤ c ∧ b < W0.heap.size := by
  have hb := Kd.R_lt h b hv
  obtain ⟨A, c, e1, hc, _⟩ := Kd.R_reads h
  obtain ⟨inner, ho⟩ := Kd.R_own h
  rcases ho.2 with ⟨e2, _⟩ | ⟨g, cap, cur, e2, _⟩
  · rw [e2] at hv; simp [Value.ownBlock] at hv
  · rw [e2] at hv
    have : g = b := by simpa [Value.ownBlock] using hv
    subst this
    rw [e1] at e2
    injection e2 with q1 q2 q3
    subst q1
    exact ⟨c, e1, hc, hb⟩
def Rg (wi : World) (g n c : Nat) (T : List Int) : Prop := T.length = n ∧ n ≤ c ∧ Kd.R (Kd.int .i64) 3 wi 0 (fun k => k = g) (.slice (some ⟨g, 0, none⟩) n c) T ∧ g < wi.heap.size
theorem Rg.below {wi wj : World} {g n c : Nat} {T : List Int} (h : Rg wi g n c T) (hb : Below wi.heap.size wi wj) : Rg wj g n c T := ⟨h.1, h.2.1, Kd.R_below h.2.2.1 hb, Nat.lt_of_lt_of_le h.2.2.2 hb.size⟩
theorem Rg.far {wi : World} {g n c : Nat} {T : List Int} (h : Rg wi g n c T) {p : Addr} (hp : g ≠ p.block) (u : Value) : Rg (wi.setCell p u) g n c T := ⟨h.1, h.2.1, Kd.R_far h.2.2.1 (fun k hk => by rw [hk]; exact hp) u, by simpa [World.setCell] using h.2.2.2⟩
theorem Rg.put {wi : World} {g n c : Nat} {T : List Int} (h : Rg wi g n c T) (k : Nat) (x : Int) : Rg (wi.setCell ⟨g, k, none⟩ (.int .i64 x)) g n c (T.set k x) := by
  obtain ⟨h1, h2, h3, h4⟩ := h
  subst h1
  have := (Kd.R_putg h3 (k : Int) x).1
  rw [Int.toNat_natCast] at this
  exact ⟨by simp, h2, this, by simpa [World.setCell] using h4⟩
theorem Rg.cell {wi : World} {g n c : Nat} {T : List Int} (h : Rg wi g n c T) (k : Nat) (hk : k < n) : wi.cell? ⟨g, k, none⟩ = some (.int .i64 (rd T (k : Int))) ∧ wi.frozen? ⟨g, k, none⟩ = false := by
  obtain ⟨h1, h2, h3, h4⟩ := h
  subst h1
  have := Kd.R_cell 0 h3 (k : Int) (by omega) (by omega)
  rw [Int.toNat_natCast] at this
  exact this
theorem Rg.reads {wi : World} {g n c : Nat} {T : List Int} (h : Rg wi g n c T) : Kd.C (Kd.int .i64) wi (some ⟨g, 0, none⟩) n T := by
  have := (Kd.R_reads' h.2.2.1).2.2
  rw [h.1] at this
  exact this
theorem Rg.of {wi : World} {e1 : Nat} {ok : Nat → Prop} {b n : Nat} {T : List Int} {v : Value} (h : Kd.R (Kd.int .i64) 3 wi e1 ok v T) (hv : v.ownBlock = some b) (hl : T.length = n) : ∃ c, v = .slice (some ⟨b, 0, none⟩) n c ∧ Rg wi b n c T := by
  obtain ⟨c, e, hc, hb⟩ := own_form h hv
  subst hl
  refine ⟨c, e, rfl, hc, ?_, hb⟩
  have := Kd.R_tight rfl (Kd.R_lower h (Nat.zero_le _))
  subst e
  exact Kd.R_mono this (fun k hk => by simpa [Value.ownBlock] using hk)
def Dg (wi : World) (lo hi n : Nat) (AD : Option Addr) (cD : Nat) (D : List (List Int)) : Prop := D.length = n ∧ n ≤ cD ∧ Kd.R (Kd.slice 3 (Kd.int .i64)) 22 wi 0 (fun k => lo ≤ k ∧ k < hi) (.slice AD n cD) D
theorem Dg.below {wi wj : World} {lo hi n : Nat} {AD : Option Addr} {cD : Nat} {D : List (List Int)} (h : Dg wi lo hi n AD cD D) (hb : Below wi.heap.size wi wj) : Dg wj lo hi n AD cD D := ⟨h.1, h.2.1, Kd.R_below h.2.2 hb⟩
theorem Dg.far {wi : World} {lo hi n : Nat} {AD : Option Addr} {cD : Nat} {D : List (List Int)} (h : Dg wi lo hi n AD cD D) {p : Addr} (hp : p.block < lo ∨ hi ≤ p.block) (u : Value) : Dg (wi.setCell p u) lo hi n AD cD D := ⟨h.1, h.2.1, Kd.R_far h.2.2 (fun k hk e => by omega) u⟩
theorem Dg.reads {wi : World} {lo hi n : Nat} {AD : Option Addr} {cD : Nat} {D : List (List Int)} (h : Dg wi lo hi n AD cD D) : Kd.C (Kd.slice 3 (Kd.int .i64)) wi AD n D := by
  have := (Kd.R_reads' h.2.2).2.2
  rw [h.1] at this
  exact this
theorem Dg.of {W wi : World} {D : List (List Int)} {v : Value} (h : Kd.S (Kd.slice 3 (Kd.int .i64)) 22 wi W.heap.size (fun _ => True) v D) {n : Nat} (hl : D.length = n) : ∃ AD cD, v = .slice AD n cD ∧ Dg wi W.heap.size wi.heap.size n AD cD D := by
  have h1 := Kd.R_bound (Kd.S_R h)
  obtain ⟨A, c, e, hc, _⟩ := Kd.R_reads h1
  subst hl
  refine ⟨A, c, e, rfl, hc, ?_⟩
  subst e
  exact Kd.R_mono (Kd.R_lower h1 (Nat.zero_le _)) (fun k hk => ⟨hk.2.1, hk.2.2.1⟩)
theorem depL_len (B : List S48) : (depL B).length = B.length := by unfold depL; exact tb1_len _ _
theorem bl1 {w2 W1 W2 : World} (h1 : Below w2.heap.size w2 W1) (h2 : Below W1.heap.size W1 W2) : Below w2.heap.size w2 W2 := h1.trans (h2.mono h1.size)
theorem cb1 {w2 wc w7 : World} (h : Below w2.heap.size w2 wc) (hb : Below wc.heap.size wc w7) : Below wc.heap.size wc w7 := hb
theorem cb2 {w2 wc w7 : World} (h : Below w2.heap.size w2 wc) (hb : Below wc.drew.heap.size wc.drew w7) : Below wc.heap.size wc w7 := (below_drew (Below.refl _ _)).trans hb
theorem cb3 {w2 wc w7 : World} {m : Nat} (h : Below w2.heap.size w2 wc) (hb : Below (wc.drewN m).heap.size (wc.drewN m) w7) : Below wc.heap.size wc w7 := (pw_below_drewN (Below.refl _ _) _).trans hb
theorem dg_ex {w2 wc w6 : World} {n : Nat} {AD : Option Addr} {cD : Nat} {D : List (List Int)} (h : Below w2.heap.size w2 wc) (hs : wc.heap.size ≤ w6.heap.size) (hd : Dg w6 wc.heap.size w6.heap.size n AD cD D) : ∃ lo hi, Dg w6 lo hi n AD cD D ∧ (wc.heap.size ≤ lo ∧ w2.heap.size ≤ lo) ∧ hi ≤ w6.heap.size := ⟨_, _, hd, ⟨Nat.le_refl _, h.size⟩, Nat.le_refl _⟩
theorem step_ints {K Q} {a : Act} {o : Oper} {ops : Array Oper} {W : World} (hw : Region.wanted o (yielded ops a.tmps) = true) {N : Tmp} (hd : o.dst = some N) (x y : Operand) (ho : o.op = .makeSlice 22 x y) (n : Nat) (hx : a.eval x = .int .i64 (n : Int)) (hy : a.eval y = .int .i64 (n : Int)) (hn : n ≤ 60)
    (h : ∀ (b c : Nat) (w1 : World), Rg w1 b n c (List.replicate n 0) → Below W.heap.size W w1 → W.heap.size ≤ b → K (a.put o.dst (.slice (some ⟨b, 0, none⟩) n c)) w1) : if Region.wanted o (yielded ops a.tmps) = true then Oper.wp Tryd.prog o a W K Q else K (a.put o.dst undef) W := by
  refine Kd.R_make_step (Kd.int .i64) (w0 := W) 0 3 hw hd 22 x y ho (n : Int) hx hy Tryd.underlying22 (.int .i64 0) 8 info3 rfl (by decide) (by decide) 0 (ok := fun k => True) (okp := fun _ => False) ?_ (fun _ h => h.elim) trivial (by omega) (by omega) (Below.refl 0 W) (Nat.zero_le _) ?_
  · first | rfl | exact ⟨rfl, rfl⟩ | simp [Kd.int, Kd.scalar]
  · intro v1 w1 hR _ hg ⟨b, hb, hle⟩
    rw [Int.toNat_natCast] at hR
    obtain ⟨c, e, hG⟩ := Rg.of hR hb (n := n) (by simp)
    subst e
    have b7 : Below W.heap.size W w1 := ((Kp.refl (fun _ => False) W).grown hg (fun k hk => by cases hk)).none_below
    exact h b c w1 hG b7 hle
theorem upon_ints {K Q} {a : Act} {o : Oper} {W : World} {N : Tmp} (hd : o.dst = some N) (hgd : o.guard = none) (x y : Operand) (ho : o.op = .makeSlice 22 x y) (n : Nat) (hx : a.eval x = .int .i64 (n : Int)) (hy : a.eval y = .int .i64 (n : Int)) (hn : n ≤ 60)
    (h : ∀ (b c : Nat) (w1 : World), Rg w1 b n c (List.replicate n 0) → Below W.heap.size W w1 → W.heap.size ≤ b → K (a.put o.dst (.slice (some ⟨b, 0, none⟩) n c)) w1) : Oper.upon Tryd.prog o a K Q ((Sem.run Tryd.prog (Instr.makeSlice 22 (.int .i64 (n : Int)) (.int .i64 (n : Int))) W).andThen fun a w' => Result.ok (Next.value a) w') := by
  have hw : Region.wanted o (yielded #[] a.tmps) = true := by simp [Region.wanted, hgd]
  have hs := step_ints (ops := #[]) (Q := Q) hw hd x y ho n hx hy hn h
  rw [if_pos hw] at hs
  unfold Oper.wp at hs
  simpa [execOp, ho, hx, hy] using hs
structure Nw (w wi : World) (p : Nat) (W R : Int) (AL : Option Addr) (cL nL : Nat) (AI : Option Addr) (cI n : Nat) (AD : Option Addr) (cD gH cH gY cY lo hi : Nat) (D : List (List Int)) (T Y : List Int) : Prop where
  b : Below w.heap.size w wi
  g : wi.heap[p]? = some (.cells #[.int .i64 W, .int .i64 R, .slice AL nL cL, .slice AI n cI, .slice AD n cD, .slice (some ⟨gH, 0, none⟩) n cH, .slice (some ⟨gY, 0, none⟩) n cY] 69 (0, 0))
  rD : Dg wi lo hi n AD cD D
  rH : Rg wi gH n cH T
  rY : Rg wi gY n cY Y
  n1 : gH < lo ∨ hi ≤ gH
  n2 : gY < lo ∨ hi ≤ gY
  n3 : gH ≠ gY
  n4 : gH ≠ p
  n5 : gY ≠ p
  n6 : w.heap.size ≤ gH
  n7 : w.heap.size ≤ gY
section
variable {w wi wj : World} {p : Nat} {W R : Int} {AL : Option Addr} {cL nL : Nat} {AI : Option Addr} {cI n : Nat} {AD : Option Addr} {cD gH cH gY cY lo hi : Nat} {D : List (List Int)} {T Y : List Int}
theorem Nw.below (h : Nw w wi p W R AL cL nL AI cI n AD cD gH cH gY cY lo hi D T Y) (hb : Below wi.heap.size wi wj) : Nw w wj p W R AL cL nL AI cI n AD cD gH cH gY cY lo hi D T Y :=
  ⟨bl1 h.b hb, (hb.block p (blk_lt' h.g)).trans h.g, h.rD.below hb, h.rH.below hb, h.rY.below hb, h.n1, h.n2, h.n3, h.n4, h.n5, h.n6, h.n7⟩
theorem Nw.setH (h : Nw w wi p W R AL cL nL AI cI n AD cD gH cH gY cY lo hi D T Y) (k : Nat) (x : Int) : Nw w (wi.setCell ⟨gH, k, none⟩ (.int .i64 x)) p W R AL cL nL AI cI n AD cD gH cH gY cY lo hi D (T.set k x) Y :=
  ⟨(((Kp.of_below h.b (fun _ => False)).setCell (p := ⟨gH, k, none⟩) (.inr h.n6) _)).none_below, (Below.heap_setCell wi ⟨gH, k, none⟩ _ p (fun e => h.n4 e.symm)).trans h.g, h.rD.far h.n1 _, h.rH.put k x, h.rY.far (fun e => h.n3 e.symm) _, h.n1, h.n2, h.n3, h.n4, h.n5, h.n6, h.n7⟩
theorem Nw.setY (h : Nw w wi p W R AL cL nL AI cI n AD cD gH cH gY cY lo hi D T Y) (k : Nat) (x : Int) : Nw w (wi.setCell ⟨gY, k, none⟩ (.int .i64 x)) p W R AL cL nL AI cI n AD cD gH cH gY cY lo hi D T (Y.set k x) :=
  ⟨(((Kp.of_below h.b (fun _ => False)).setCell (p := ⟨gY, k, none⟩) (.inr h.n7) _)).none_below, (Below.heap_setCell wi ⟨gY, k, none⟩ _ p (fun e => h.n5 e.symm)).trans h.g, h.rD.far h.n2 _, h.rH.far h.n3 _, h.rY.put k x, h.n1, h.n2, h.n3, h.n4, h.n5, h.n6, h.n7⟩
end
theorem Nw.sf {w wi : World} {p : Nat} {W R : Int} {AL : Option Addr} {cL : Nat} {Lat : List Int} {AP : Option Addr} {cP : Nat} {P : List Int} {AI : Option Addr} {cI : Nat} {B : List S48} {A3 : Option Addr} {c3 : Nat} {t1 : List Int} {A4 : Option Addr} {c4 : Nat} {t2 : List Int} {A5 : Option Addr} {c5 : Nat} {t3 : List S98} {AD : Option Addr} {cD gH cH gY cY lo hi : Nat} {T Y : List Int}
    (h : Nw w wi p W R AL cL Lat.length AI cI B.length AD cD gH cH gY cY lo hi (depL B) T Y) (hk : Bk w AL cL Lat AP cP P AI cI B A3 c3 t1 A4 c4 t2 A5 c5 t3) : Sf wi p W R AL cL Lat AI cI B AD cD (some ⟨gH, 0, none⟩) cH T (some ⟨gY, 0, none⟩) cY Y :=
  ⟨h.g, (hk.below h.b).rL, hk.hL, (hk.below h.b).rI, hk.hI, h.rD.reads, h.rD.2.1, h.rH.reads, h.rH.2.1, h.rY.reads, h.rY.2.1⟩
theorem nw_mk {w w2 wc : World} {W R : Int} {AL : Option Addr} {cL nL : Nat} {AI : Option Addr} {cI n : Nat} {AD : Option Addr} {cD gH cH gY cY lo hi : Nat} {D : List (List Int)} {T Y : List Int} (B2 : Below w.heap.size w w2) (H0 : Below w2.heap.size w2 wc) (hD : Dg wc lo hi n AD cD D ∧ w2.heap.size ≤ lo ∧ hi ≤ wc.heap.size) (hH : Rg wc gH n cH T ∧ w2.heap.size ≤ gH) (hY : Rg wc gY n cY Y ∧ w2.heap.size ≤ gY) (n1 : gH < lo ∨ hi ≤ gH) (n2 : gY < lo ∨ hi ≤ gY) (n3 : gH ≠ gY) :
    ∃ p wE, wc.heap.size = p ∧ wc.alloc (.cells #[.int .i64 W, .int .i64 R, .slice AL nL cL, .slice AI n cI, .slice AD n cD, .slice (some ⟨gH, 0, none⟩) n cH, .slice (some ⟨gY, 0, none⟩) n cY] 69) = wE ∧ Nw w wE p W R AL cL nL AI cI n AD cD gH cH gY cY lo hi D T Y := by
  have hb : ∀ o, Below wc.heap.size wc (wc.alloc o) := fun o => below_alloc (Below.refl _ _) o
  refine ⟨_, _, rfl, rfl, bl1 (bl1 B2 (H0)) (hb _), heap_alloc_new wc _, hD.1.below (hb _), hH.1.below (hb _), hY.1.below (hb _), n1, n2, n3, ?_, ?_, ?_, ?_⟩
  · exact Nat.ne_of_lt hH.1.2.2.2
  · exact Nat.ne_of_lt hY.1.2.2.2
  · exact Nat.le_trans B2.size hH.2
  · exact Nat.le_trans B2.size hY.2
theorem nw_end {w w2 wi : World} {p : Nat} {W R : Int} {AL : Option Addr} {cL : Nat} {Lat : List Int} {AP : Option Addr} {cP : Nat} {P : List Int} {AI : Option Addr} {cI : Nat} {B : List S48} {A3 : Option Addr} {c3 : Nat} {t1 : List Int} {A4 : Option Addr} {c4 : Nat} {t2 : List Int} {A5 : Option Addr} {c5 : Nat} {t3 : List S98} {AD : Option Addr} {cD gH cH gY cY lo hi : Nat} {T : List Int}
    (B2 : Below w.heap.size w w2) (hk : Bk w2 AL cL Lat AP cP P AI cI B A3 c3 t1 A4 c4 t2 A5 c5 t3) (h : Nw w2 wi p W R AL cL Lat.length AI cI B.length AD cD gH cH gY cY lo hi (depL B) T (cyM B.length 0)) (hp : Hp (insS W Lat B) T 0) : NS w W R AL cL Lat AI cI B (.returned (.pointer (some ⟨p, 0, none⟩))) wi := by
  rw [cyM_end] at h
  refine ⟨p, AD, cD, _, cH, T, _, cY, rfl, hp, h.sf hk, bl1 B2 h.b, fun hn => ⟨gY, rfl, Nat.le_trans B2.size h.n7, h.rY.2.2.2, h.rY.2.2.1, fun wj t hK hY => ?_⟩⟩
  have hb : Below w2.heap.size w2 wj := ((Kp.of_below h.b (fun _ => False)).then_ hK (fun k e => .inr (by rw [e]; exact h.n7))).none_below
  have hY2 := (Kd.R_reads' hY).2.2
  rw [tbn_len] at hY2
  have hD : Dg wj lo hi B.length AD cD (depL B) := ⟨h.rD.1, h.rD.2.1, Kd.R_step h.rD.2.2 (fun k hk hlt => hK.block hlt (fun e => by have := h.n2; omega))⟩
  have hH : Rg wj gH B.length cH T := ⟨h.rH.1, h.rH.2.1, Kd.R_step h.rH.2.2.1 (fun k hk hlt => hK.block hlt (fun e => h.n3 (hk.symm.trans e))), Nat.lt_of_lt_of_le h.rH.2.2.2 hK.size⟩
  exact ⟨(hK.block (blk_lt' h.g) (fun e => h.n5 e.symm)).trans h.g, (hk.below hb).rL, hk.hL, (hk.below hb).rI, hk.hI, hD.reads, hD.2.1, hH.reads, hH.2.1, hY2, h.rY.2.1⟩
theorem addz (g k : Nat) : (⟨g, 0, none⟩ : Addr).add k = ⟨g, k, none⟩ := by
  unfold Addr.add
  by_cases h : k = 0
  · subst h; simp
  · simp [h]
theorem dg_form {wi : World} {lo hi n : Nat} {AD : Option Addr} {cD : Nat} {D : List (List Int)} (h : Dg wi lo hi n AD cD D) (hn : 0 < n) : ∃ g, AD = some ⟨g, 0, none⟩ ∧ lo ≤ g ∧ g < hi ∧ g < wi.heap.size := by
  obtain ⟨g, cap, e, _, hg, _⟩ := Kd.R_form h.2.2 (by rw [h.1]; exact hn)
  injection e with e1 e2 e3
  subst e1
  have := h.2.2.1 g (by simp [Value.ownBlock])
  exact ⟨g, rfl, this.1, this.2, hg⟩
theorem nw_max {w2 w6 : World} {S : Ins} {p : Nat} {W R : Int} {AL : Option Addr} {cL nL : Nat} {AI : Option Addr} {cI n : Nat} {AD : Option Addr} {cD gH cH gY cY lo hi : Nat} {D : List (List Int)} {T Y : List Int} {k : Nat} (hS : Ok S) (hR : Hr S T (k + 1) (fun _ => True)) (hk : k < S.n) (h : Nw w2 w6 p W R AL cL nL AI cI n AD cD gH cH gY cY lo hi D T Y) (tk lk : Int) (hl : S.lt k = lk) (ht : rd T (k : Int) = tk) :
    ∃ x w7, (if tk < lk then lk else tk) = x ∧ w6.setCell ⟨gH, k, none⟩ (.int .i64 x) = w7 ∧ Nw w2 w7 p W R AL cL nL AI cI n AD cD gH cH gY cY lo hi D (T.set k x) Y ∧ Hr S (T.set k x) k (fun _ => False) := by
  refine ⟨_, _, rfl, rfl, h.setH k _, Hr.store hS hR hk ?_⟩
  rw [hl, ht]
  split <;> omega
theorem nw_max2 {w2 w6 v7 : World} {S : Ins} {p : Nat} {W R : Int} {AL : Option Addr} {cL nL : Nat} {AI : Option Addr} {cI n : Nat} {AD : Option Addr} {cD gH cH gY cY lo hi : Nat} {D : List (List Int)} {T Y : List Int} {k i : Nat} {V : Nat → Prop} (V' : Nat → Prop) (hR : Hr S T k V) (hk : k < S.n) (hik : i < k) (hd : S.D k i = true) (hV : ∀ a, V' a → V a ∨ a = i) (h : Nw w2 w6 p W R AL cL nL AI cI n AD cD gH cH gY cY lo hi D T Y) (hK : Kp (fun q => q = gH) v7 w6) (ti tk d sm : Int) (hl : S.dl i k = d) (ht : rd T (k : Int) = tk) (hti : rd T (i : Int) = ti) (hsm : d + tk = sm) :
    ∃ x w7, (if ti < sm then sm else ti) = x ∧ w6.setCell ⟨gH, i, none⟩ (.int .i64 x) = w7 ∧ Nw w2 w7 p W R AL cL nL AI cI n AD cD gH cH gY cY lo hi D (T.set i x) Y ∧ Kp (fun q => q = gH) v7 w7 ∧ Hr S (T.set i x) k V' := by
  refine ⟨_, _, rfl, rfl, h.setH i _, hK.setCell (p := ⟨gH, i, none⟩) (.inl rfl) _, Hr.relax hR hk hik hd ?_ hV⟩
  rw [hl, ht, hti, hsm]
  split <;> omega
theorem cut9 {G H : Prop} (h : Aside0 G → H) (g : G) : H := h ⟨g⟩
set_option maxRecDepth 100000 in
set_option maxHeartbeats 4000000 in
theorem new_any (h : Bk w AL cL Lat AP cP P AI cI B A3 c3 t1 A4 c4 t2 A5 c5 t3) (hB : sml B) (hS : Ok (insS W Lat B)) :
    Calls Tryd.prog 26 #[.agg #[.int .i64 W, .int .i64 R, .slice AL Lat.length cL], .agg #[.slice AP P.length cP, .slice AI B.length cI, .int .i64 t0, .slice A3 t1.length c3, .slice A4 t2.length c4, .slice A5 t3.length c5, .int .i64 t4]] w (NS w W R AL cL Lat AI cI B) := by
  have hl := hB.len
  obtain ⟨b0, hb0⟩ : ∃ b0, b0 = w.heap.size := ⟨_, rfl⟩
  obtain ⟨w1, hw1⟩ : ∃ w1, w1 = w.alloc (.cells #[.int .i64 W, .int .i64 R, .slice AL Lat.length cL] 24 (0, 0)) := ⟨_, rfl⟩
  obtain ⟨w2, hw2⟩ : ∃ w2, w2 = w1.alloc (.cells #[.slice AP P.length cP, .slice AI B.length cI, .int .i64 t0, .slice A3 t1.length c3, .slice A4 t2.length c4, .slice A5 t3.length c5, .int .i64 t4] 31 (0, 0)) := ⟨_, rfl⟩
  have hs1 : w1.heap.size = w.heap.size + 1 := by rw [hw1]; simp
  have B2 : Below w.heap.size w w2 := by rw [hw2, hw1]; exact below_alloc (below_alloc (Below.refl _ w) _) _
  have z1 : w2.heap[b0]? = some (.cells #[.int .i64 W, .int .i64 R, .slice AL Lat.length cL] 24 (0, 0)) := by
    rw [hw2, hb0, Below.heap_alloc _ _ _ (by omega), hw1]
    exact heap_alloc_new w _
  have z2 : w2.heap[b0 + 1]? = some (.cells #[.slice AP P.length cP, .slice AI B.length cI, .int .i64 t0, .slice A3 t1.length c3, .slice A4 t2.length c4, .slice A5 t3.length c5, .int .i64 t4] 31 (0, 0)) := by
    rw [hw2]
    have := heap_alloc_new w1 (.cells #[.slice AP P.length cP, .slice AI B.length cI, .int .i64 t0, .slice A3 t1.length c3, .slice A4 t2.length c4, .slice A5 t3.length c5, .int .i64 t4] 31 (0, 0))
    rw [hs1, ← hb0] at this
    exact this
  have hX := Aside0.mk (And.intro h (And.intro hB (And.intro hS (And.intro B2 (And.intro z1 (And.intro z2 hb0))))))
  have a0 := cell_at z1 (j := 0) rfl
  have a1 := cell_at z1 (j := 1) rfl
  have a2 := cell_at z1 (j := 2) rfl
  have d0 := cell_at z2 (j := 0) rfl
  have d1 := cell_at z2 (j := 1) rfl
  have d2 := cell_at z2 (j := 2) rfl
  have d3 := cell_at z2 (j := 3) rfl
  have d4 := cell_at z2 (j := 4) rfl
  have d5 := cell_at z2 (j := 5) rfl
  have d6 := cell_at z2 (j := 6) rfl
  clear h hB hS B2 z1 z2 hs1
  go_enter Tryd.func26, Tryd.ntmps26
  go_upto_region 1 with (fail)
  rw [← hb0, ← hw1, ← hw2]
  clear hw1 hw2 hb0
  go_upto_region 2 with (fail)
  have H0 := Aside0.mk (Below.refl w2.heap.size w2)
  have hDep := Aside0.mk (fun (W1 : World) (h1 : Below w2.heap.size w2 W1) => deps_any ((hX.out.1.below hX.out.2.2.2.1).below h1) hX.out.2.1 t0 t4)
  have hCl := Aside0.mk (fun (w' : World) (hb : Below w2.heap.size w2 w') => (show w'.cell? ⟨b0, 0, none⟩ = some (.int .i64 W) ∧ w'.cell? ⟨b0, 1, none⟩ = some (.int .i64 R) ∧ w'.cell? ⟨b0, 2, none⟩ = some (.slice AL Lat.length cL) ∧ w'.cell? ⟨b0 + 1, 0, none⟩ = some (.slice AP P.length cP) ∧ w'.cell? ⟨b0 + 1, 1, none⟩ = some (.slice AI B.length cI) ∧ w'.cell? ⟨b0 + 1, 2, none⟩ = some (.int .i64 t0) ∧ w'.cell? ⟨b0 + 1, 3, none⟩ = some (.slice A3 t1.length c3) ∧ w'.cell? ⟨b0 + 1, 4, none⟩ = some (.slice A4 t2.length c4) ∧ w'.cell? ⟨b0 + 1, 5, none⟩ = some (.slice A5 t3.length c5) ∧ w'.cell? ⟨b0 + 1, 6, none⟩ = some (.int .i64 t4) from
    ⟨cell_at ((hb.block b0 (blk_lt' hX.out.2.2.2.2.1)).trans hX.out.2.2.2.2.1) rfl, cell_at ((hb.block b0 (blk_lt' hX.out.2.2.2.2.1)).trans hX.out.2.2.2.2.1) rfl, cell_at ((hb.block b0 (blk_lt' hX.out.2.2.2.2.1)).trans hX.out.2.2.2.2.1) rfl,
     cell_at ((hb.block (b0 + 1) (blk_lt' hX.out.2.2.2.2.2.1)).trans hX.out.2.2.2.2.2.1) rfl, cell_at ((hb.block (b0 + 1) (blk_lt' hX.out.2.2.2.2.2.1)).trans hX.out.2.2.2.2.2.1) rfl, cell_at ((hb.block (b0 + 1) (blk_lt' hX.out.2.2.2.2.2.1)).trans hX.out.2.2.2.2.2.1) rfl, cell_at ((hb.block (b0 + 1) (blk_lt' hX.out.2.2.2.2.2.1)).trans hX.out.2.2.2.2.2.1) rfl, cell_at ((hb.block (b0 + 1) (blk_lt' hX.out.2.2.2.2.2.1)).trans hX.out.2.2.2.2.2.1) rfl, cell_at ((hb.block (b0 + 1) (blk_lt' hX.out.2.2.2.2.2.1)).trans hX.out.2.2.2.2.2.1) rfl, cell_at ((hb.block (b0 + 1) (blk_lt' hX.out.2.2.2.2.2.1)).trans hX.out.2.2.2.2.2.1) rfl⟩))
  clear a0 a1 a2 d0 d1 d2 d3 d4 d5 d6
  obtain ⟨a0, a1, a2, d0, d1, d2, d3, d4, d5, d6⟩ := hCl.out w2 H0.out
  have hlen := Aside0.mk hl
  apply cut9
  · intro key
    go_region_held3 (fun w' => w'.cell? ⟨b0, 0, none⟩ = some (.int .i64 W) ∧ w'.cell? ⟨b0, 1, none⟩ = some (.int .i64 R) ∧ w'.cell? ⟨b0, 2, none⟩ = some (.slice AL Lat.length cL) ∧ w'.cell? ⟨b0 + 1, 0, none⟩ = some (.slice AP P.length cP) ∧ w'.cell? ⟨b0 + 1, 1, none⟩ = some (.slice AI B.length cI) ∧ w'.cell? ⟨b0 + 1, 2, none⟩ = some (.int .i64 t0) ∧ w'.cell? ⟨b0 + 1, 3, none⟩ = some (.slice A3 t1.length c3) ∧ w'.cell? ⟨b0 + 1, 4, none⟩ = some (.slice A4 t2.length c4) ∧ w'.cell? ⟨b0 + 1, 5, none⟩ = some (.slice A5 t3.length c5) ∧ w'.cell? ⟨b0 + 1, 6, none⟩ = some (.int .i64 t4)) (first | (refine hCl.out _ ?_; first | exact H0.out | exact below_drew H0.out | exact pw_below_drewN H0.out _) | go_keep) (first
      | ((go_at_call 18; with_reducible refine (hDep.out _ ?_).mono ?_)
         · first | exact H0.out | exact below_drew H0.out | exact pw_below_drewN H0.out _
         rintro e' w6 ⟨v, rfl, Rx, Bx⟩
         obtain ⟨AD, cD, rfl, hDg0⟩ := Dg.of Rx (depL_len B)
         clear Rx
         first | have Bc := cb1 H0.out Bx | have Bc := cb2 H0.out Bx | have Bc := cb3 H0.out Bx
         obtain ⟨dlo, dhi, hDg, hlo, hhi⟩ := dg_ex H0.out Bc.size hDg0
         clear hDg0
         try have nDH := Aside0.mk (show gH < dlo ∨ dhi ≤ gH from .inl (Nat.lt_of_lt_of_le hH.out.1.2.2.2 hlo.1))
         try have nDY := Aside0.mk (show gY < dlo ∨ dhi ≤ gY from .inl (Nat.lt_of_lt_of_le hY.out.1.2.2.2 hlo.1))
         try replace hH := Aside0.mk (And.intro (hH.out.1.below Bc) hH.out.2)
         try replace hY := Aside0.mk (And.intro (hY.out.1.below Bc) hY.out.2)
         have hD := Aside0.mk (And.intro hDg (And.intro hlo.2 hhi))
         replace H0 := Aside0.mk (bl1 H0.out Bc)
         clear hDg hlo hhi Bx Bc)
      | ((refine upon_ints (N := 19) (by rfl) (by rfl) (.tmp 18) (.tmp 18) (by rfl) B.length (by rfl) (by rfl) hlen.out ?_)
         intro gH cH w7 hG Bx hle
         first | have Bc := cb1 H0.out Bx | have Bc := cb2 H0.out Bx | have Bc := cb3 H0.out Bx
         try have nDH := Aside0.mk (show gH < dlo ∨ dhi ≤ gH from .inr (Nat.le_trans hD.out.2.2 hle))
         try have nHY := Aside0.mk (show gH ≠ gY from Nat.ne_of_gt (Nat.lt_of_lt_of_le hY.out.1.2.2.2 hle))
         try replace hD := Aside0.mk (And.intro (hD.out.1.below Bc) (And.intro hD.out.2.1 (Nat.le_trans hD.out.2.2 Bc.size)))
         try replace hY := Aside0.mk (And.intro (hY.out.1.below Bc) hY.out.2)
         have hH := Aside0.mk (And.intro hG (Nat.le_trans H0.out.size hle))
         replace H0 := Aside0.mk (bl1 H0.out Bc)
         clear hG hle Bx Bc)
      | ((refine upon_ints (N := 21) (by rfl) (by rfl) (.tmp 20) (.tmp 20) (by rfl) B.length (by rfl) (by rfl) hlen.out ?_)
         intro gY cY w8 hG Bx hle
         first | have Bc := cb1 H0.out Bx | have Bc := cb2 H0.out Bx | have Bc := cb3 H0.out Bx
         try have nDY := Aside0.mk (show gY < dlo ∨ dhi ≤ gY from .inr (Nat.le_trans hD.out.2.2 hle))
         try have nHY := Aside0.mk (show gH ≠ gY from Nat.ne_of_lt (Nat.lt_of_lt_of_le hH.out.1.2.2.2 hle))
         try replace hD := Aside0.mk (And.intro (hD.out.1.below Bc) (And.intro hD.out.2.1 (Nat.le_trans hD.out.2.2 Bc.size)))
         try replace hH := Aside0.mk (And.intro (hH.out.1.below Bc) hH.out.2)
         have hY := Aside0.mk (And.intro hG (Nat.le_trans H0.out.size hle))
         replace H0 := Aside0.mk (bl1 H0.out Bc)
         clear hG hle Bx Bc)
      | fail)
    all_goals
      obtain ⟨p, wE, e1, e2, hN⟩ := nw_mk (W := W) (R := R) (AL := AL) (cL := cL) (nL := Lat.length) (AI := AI) (cI := cI) (Below.refl _ w2) H0.out hD.out hH.out hY.out nDH.out nDY.out nHY.out
      try rw [e2]
      try rw [e1]
      replace hN := Aside0.mk hN
      clear e1 e2 H0 hD hH hY nDH nDY nHY
      rename_i hs9
      clear hs9
      try clear w6
      try clear w7
      try clear w8
      revert hN
      revert wE
      revert p
      revert cY
      revert gY
      revert cH
      revert gH
      revert dhi
      revert dlo
      revert cD
      revert AD
      exact key.out
  intro AD cD dlo dhi gH cH gY cY p wE hN
  have hI : Aside0 (Nw w2 wE p W R AL cL Lat.length AI cI B.length AD cD gH cH gY cY dlo dhi (depL B) (List.replicate B.length 0) (cyM B.length B.length) ∧ Hr (insS W Lat B) (List.replicate B.length 0) B.length (fun _ => True)) := ⟨by have := hN.out; rw [cyM_start] at this; rw [cyM_start]; exact this, Hr.start (insS W Lat B)⟩
  have hBk := Aside0.mk (hX.out.1.below hX.out.2.2.2.1)
  clear hN a0 a1 a2 d0 d1 d2 d3 d4 d5 d6 hDep H0
  have hq0 : wrap64 ((B.length : Int) - 1) = (B.length : Int) - 1 := by unfold wrap64; omega
  go_wp2_with fail
  go_loopg [7] B.length (fun q v wi => ∃ (z : Int) (T : List Int), z = (q : Int) - 1 ∧ q ≤ B.length ∧ v = .int .i64 z ∧ Aside0 (Nw w2 wi p W R AL cL Lat.length AI cI B.length AD cD gH cH gY cY dlo dhi (depL B) T (cyM B.length q) ∧ Hr (insS W Lat B) T q (fun _ => True)))
  case atStart => exact ⟨(B.length : Int) - 1, _, rfl, Nat.le_refl _, by first | rfl | go_num | (congr 1), hI⟩
  case round =>
    obtain ⟨z, T, hz, hgn, rfl, hJ⟩ := hrel
    clear hI
    by_cases hgt : 0 < gk
    · obtain ⟨k, rfl⟩ : ∃ k, gk = k + 1 := ⟨gk - 1, by omega⟩
      obtain rfl : z = (k : Int) := by omega
      clear hz hgt
      have hk : k < B.length := by omega
      have hk0 : (0 : Int) ≤ (k : Int) := by omega
      have hk1 : (k : Int) < (B.length : Int) := by omega
      have c6 := (hJ.out.1.sf hBk.out).c6
      obtain ⟨y0, y1⟩ := hJ.out.1.rY.cell k hk
      have hcur : Aside0 (Nw w2 (wr.setCell ⟨gY, k, none⟩ (.int .i64 (-1))) p W R AL cL Lat.length AI cI B.length AD cD gH cH gY cY dlo dhi (depL B) T (cyM B.length k)) := ⟨by have := hJ.out.1.setY k (-1); rw [cyM_set hk] at this; exact this⟩
      go_upto_region 7 with (fail)
      obtain ⟨w5, hw5⟩ : ∃ w5, w5 = wr.setCell ⟨gY, k, none⟩ (.int .i64 (-1)) := ⟨_, rfl⟩
      rw [← hw5] at hcur
      rw [← hw5]
      clear hw5 c6 y0 y1
      have c5 := (hcur.out.sf hBk.out).c5
      obtain ⟨v0, v1⟩ := hcur.out.rH.cell k hk
      obtain ⟨a0, a1, a2, _, d1, _, _, _, _, _⟩ := hCl.out w5 hcur.out.b
      obtain ⟨ad, A1, c1, eA, x0, _, _, _, _, _, _, _, hl1, hC1⟩ := at_T48 (hBk.out.below hcur.out.b).rI (k : Int) hk0 hk1
      subst eA
      rw [Int.toNat_natCast] at x0
      have hlt : (insS W Lat B).lt k = latI Lat (rd_T48 B (k : Int)).f0 := rfl
      obtain ⟨fk, hfk⟩ : ∃ fk, (rd_T48 B (k : Int)).f0 = fk := ⟨_, rfl⟩
      rw [hfk] at x0 hlt
      have hL := Aside0.mk (fun (W1 : World) (e1 : Below w5.heap.size w5 W1) => machine_Latency.calls W R AL cL Lat fk _ W1 (Kd.C_below (hBk.out.below hcur.out.b).rL e1) hBk.out.hL (lat_f W R Lat fk))
      obtain ⟨tk, htk⟩ : ∃ tk, rd T (k : Int) = tk := ⟨_, rfl⟩
      rw [htk] at v0
      obtain ⟨lk, hlk⟩ : ∃ lk, latI Lat fk = lk := ⟨_, rfl⟩
      rw [hlk] at hlt hL
      replace hlt := Aside0.mk (And.intro hlt htk)
      clear hl1 hC1 hfk htk hlk
      have hgs := hcur.out.n6
      have hn1 : ¬ gH = p := hcur.out.n4
      have hn2 : ¬ gH = b0 := fun e => by have := blk_lt' hX.out.2.2.2.2.1; omega
      have hn3 : ¬ gH = b0 + 1 := fun e => by have := blk_lt' hX.out.2.2.2.2.2.1; omega
      have hn4 : ¬ gH = (ad.add (k * 8)).block := fun e => by
        obtain ⟨ad', _, _, eA', x0', _⟩ := at_T48 hBk.out.rI (k : Int) hk0 hk1
        injection eA' with eA'
        subst eA'
        have := World.block_lt_of_cell? _ _ x0'
        rw [Int.toNat_natCast] at this
        omega
      clear hgs
      refine Held.begin_ (S := fun w' => w'.cell? ⟨p, 5, none⟩ = some (.slice (some ⟨gH, 0, none⟩) B.length cH) ∧ w'.cell? ⟨b0, 0, none⟩ = some (.int .i64 W) ∧ w'.cell? ⟨b0, 1, none⟩ = some (.int .i64 R) ∧ w'.cell? ⟨b0, 2, none⟩ = some (.slice AL Lat.length cL) ∧ w'.cell? ⟨b0 + 1, 1, none⟩ = some (.slice (some ad) B.length cI) ∧ w'.cell? (ad.add (k * 8)) = some (.int .i64 fk) ∧ w'.cell? ⟨gH, k, none⟩ = some (.int .i64 tk)) 22 (by kernel_rfl) (by kernel_rfl) ?_ (fun hHeld => ?_)
      · exact ⟨c5, a0, a1, a2, d1, x0, v0⟩
      simp only [List.length_cons, List.length_nil, Nat.reduceAdd, List.replicate, Array.replicate]
      refine Held.take_ (v := ?vv3113100) 0 rfl rfl (by kernel_rfl) (by kernel_rfl) (fun _ _ _ h => h) (by assumption) (Or.inl ⟨by rfl, ?hy3113100⟩) ?_
      case hy3113100 => intro w hSw; (try dsimp only at hSw); (go_simp <;> with_reducible rfl)
      try simp only [Act.put, List.setIfInBounds_toArray, List.set_cons_zero, List.set_cons_succ]
      refine Held.take_ (v := ?vv3113101) 1 rfl rfl (by kernel_rfl) (by kernel_rfl) (fun _ _ _ h => h) (by assumption) (Or.inl ⟨by rfl, ?hy3113101⟩) ?_
      case hy3113101 => intro w hSw; (try dsimp only at hSw); (go_simp <;> with_reducible rfl)
      try simp only [Act.put, List.setIfInBounds_toArray, List.set_cons_zero, List.set_cons_succ]
      refine Held.take_ (v := ?vv3113102) 2 rfl rfl (by kernel_rfl) (by kernel_rfl) (fun _ _ _ h => h) (by assumption) (Or.inl ⟨by rfl, ?hy3113102⟩) ?_
      case hy3113102 => intro w hSw; (try dsimp only at hSw); (go_simp <;> with_reducible rfl)
      try simp only [Act.put, List.setIfInBounds_toArray, List.set_cons_zero, List.set_cons_succ]
      refine Held.take_ (v := ?vv3113103) 3 rfl rfl (by kernel_rfl) (by kernel_rfl) (fun _ _ _ h => h) (by assumption) (Or.inl ⟨by rfl, ?hy3113103⟩) ?_
      case hy3113103 => intro w hSw; (try dsimp only at hSw); (go_simp <;> with_reducible rfl)
      try simp only [Act.put, List.setIfInBounds_toArray, List.set_cons_zero, List.set_cons_succ]
      refine Held.take_ (v := ?vv3113104) 4 rfl rfl (by kernel_rfl) (by kernel_rfl) (fun _ _ _ h => h) (by assumption) (Or.inl ⟨by rfl, ?hy3113104⟩) ?_
      case hy3113104 => intro w hSw; (try dsimp only at hSw); (go_simp <;> with_reducible rfl)
      try simp only [Act.put, List.setIfInBounds_toArray, List.set_cons_zero, List.set_cons_succ]
      refine Held.take_ (v := ?vv3113105) 5 rfl rfl (by kernel_rfl) (by kernel_rfl) (fun _ _ _ h => h) (by assumption) (Or.inl ⟨by rfl, ?hy3113105⟩) ?_
      case hy3113105 => intro w hSw; (try dsimp only at hSw); (go_simp <;> with_reducible rfl)
      try simp only [Act.put, List.setIfInBounds_toArray, List.set_cons_zero, List.set_cons_succ]
      refine Held.take_ (v := ?vv3113106) 6 rfl rfl (by kernel_rfl) (by kernel_rfl) (fun _ _ _ h => h) (by assumption) (Or.inl ⟨by rfl, ?hy3113106⟩) ?_
      case hy3113106 => intro w hSw; (try dsimp only at hSw); (go_simp <;> with_reducible rfl)
      try simp only [Act.put, List.setIfInBounds_toArray, List.set_cons_zero, List.set_cons_succ]
      refine Held.take_ (v := ?vv3113107) 7 rfl rfl (by kernel_rfl) (by kernel_rfl) (fun _ _ _ h => h) (by assumption) (Or.inl ⟨by rfl, ?hy3113107⟩) ?_
      case hy3113107 => intro w hSw; (try dsimp only at hSw); (go_simp <;> with_reducible rfl)
      try simp only [Act.put, List.setIfInBounds_toArray, List.set_cons_zero, List.set_cons_succ]
      refine Held.take_ (v := ?vv3113108) 8 rfl rfl (by kernel_rfl) (by kernel_rfl) (fun _ _ _ h => h) (by assumption) (Or.inl ⟨by rfl, ?hy3113108⟩) ?_
      case hy3113108 => intro w hSw; (try dsimp only at hSw); (go_simp <;> with_reducible rfl)
      try simp only [Act.put, List.setIfInBounds_toArray, List.set_cons_zero, List.set_cons_succ]
      refine Held.take_ (v := ?vv3113109) 9 rfl rfl (by kernel_rfl) (by kernel_rfl) (fun _ _ _ h => h) (by assumption) (Or.inl ⟨by rfl, ?hy3113109⟩) ?_
      case hy3113109 => intro w hSw; (try dsimp only at hSw); (go_simp <;> with_reducible rfl)
      try simp only [Act.put, List.setIfInBounds_toArray, List.set_cons_zero, List.set_cons_succ]
      refine Held.take_ (v := ?vv3113110) 10 rfl rfl (by kernel_rfl) (by kernel_rfl) (fun _ _ _ h => h) (by assumption) (Or.inl ⟨by rfl, ?hy3113110⟩) ?_
      case hy3113110 => intro w hSw; (try dsimp only at hSw); (go_simp <;> with_reducible rfl)
      try simp only [Act.put, List.setIfInBounds_toArray, List.set_cons_zero, List.set_cons_succ]
      refine Held.take_ (v := ?vv3113111) 11 rfl rfl (by kernel_rfl) (by kernel_rfl) (fun _ _ _ h => h) (by assumption) (Or.inl ⟨by rfl, ?hy3113111⟩) ?_
      case hy3113111 => intro w hSw; (try dsimp only at hSw); (go_simp <;> with_reducible rfl)
      try simp only [Act.put, List.setIfInBounds_toArray, List.set_cons_zero, List.set_cons_succ]
      refine Held.take_ (v := ?vv3113112) 12 rfl rfl (by kernel_rfl) (by kernel_rfl) (fun _ _ _ h => h) (by assumption) (Or.inl ⟨by rfl, ?hy3113112⟩) ?_
      case hy3113112 => intro w hSw; (try dsimp only at hSw); (go_simp <;> with_reducible rfl)
      try simp only [Act.put, List.setIfInBounds_toArray, List.set_cons_zero, List.set_cons_succ]
      refine Held.take_ (v := ?vv3113113) 13 rfl rfl (by kernel_rfl) (by kernel_rfl) (fun _ _ _ h => h) (by assumption) (Or.inl ⟨by rfl, ?hy3113113⟩) ?_
      case hy3113113 => intro w hSw; (try dsimp only at hSw); (go_simp <;> with_reducible rfl)
      try simp only [Act.put, List.setIfInBounds_toArray, List.set_cons_zero, List.set_cons_succ]
      refine Held.take_ (v := ?vv3113114) 14 rfl rfl (by kernel_rfl) (by kernel_rfl) (fun _ _ _ h => h) (by assumption) (Or.inl ⟨by rfl, ?hy3113114⟩) ?_
      case hy3113114 => intro w hSw; (try dsimp only at hSw); (go_simp <;> with_reducible rfl)
      try simp only [Act.put, List.setIfInBounds_toArray, List.set_cons_zero, List.set_cons_succ]
      refine Held.take_ (v := ?vv3113115) 15 rfl rfl (by kernel_rfl) (by kernel_rfl) (fun _ _ _ h => h) (by assumption) (Or.inl ⟨by rfl, ?hy3113115⟩) ?_
      case hy3113115 => intro w hSw; (try dsimp only at hSw); (go_simp <;> with_reducible rfl)
      try simp only [Act.put, List.setIfInBounds_toArray, List.set_cons_zero, List.set_cons_succ]
      refine Held.take_ (v := ?vv3113116) 16 rfl rfl (by kernel_rfl) (by kernel_rfl) (fun _ _ _ h => h) (by assumption) (Or.inl ⟨by rfl, ?hy3113116⟩) ?_
      case hy3113116 => intro w hSw; (try dsimp only at hSw); (go_simp <;> with_reducible rfl)
      try simp only [Act.put, List.setIfInBounds_toArray, List.set_cons_zero, List.set_cons_succ]
      refine Held.take_ (v := ?vv3113117) 17 rfl rfl (by kernel_rfl) (by kernel_rfl) (fun _ _ _ h => h) (by assumption) (Or.inl ⟨by rfl, ?hy3113117⟩) ?_
      case hy3113117 => intro w hSw; (try dsimp only at hSw); (go_simp <;> with_reducible rfl)
      try simp only [Act.put, List.setIfInBounds_toArray, List.set_cons_zero, List.set_cons_succ]
      refine Held.take_ (v := ?vv3113118) 18 rfl rfl (by kernel_rfl) (by kernel_rfl) (fun _ _ _ h => h) (by assumption) (Or.inl ⟨by rfl, ?hy3113118⟩) ?_
      case hy3113118 => intro w hSw; (try dsimp only at hSw); (go_simp <;> with_reducible rfl)
      try simp only [Act.put, List.setIfInBounds_toArray, List.set_cons_zero, List.set_cons_succ]
      refine Held.step_ 19 rfl rfl (by kernel_rfl) (fun K hK => ?_)
      go_simp
      go_at_call 20
      with_reducible refine (hL.out _ (below_drew (Below.refl _ _))).mono ?_
      rintro e' w6 ⟨rfl, Bx0⟩
      have Bx : Below w5.heap.size w5 w6 := (below_drew (Below.refl _ w5)).trans Bx0
      clear Bx0
      have f1 : w6.cell? ⟨p, 5, none⟩ = some (.slice (some ⟨gH, 0, none⟩) B.length cH) ∧ w6.cell? ⟨b0, 0, none⟩ = some (.int .i64 W) ∧ w6.cell? ⟨b0, 1, none⟩ = some (.int .i64 R) ∧ w6.cell? ⟨b0, 2, none⟩ = some (.slice AL Lat.length cL) ∧ w6.cell? ⟨b0 + 1, 1, none⟩ = some (.slice (some ad) B.length cI) ∧ w6.cell? (ad.add (k * 8)) = some (.int .i64 fk) ∧ w6.cell? ⟨gH, k, none⟩ = some (.int .i64 tk) :=
        ⟨(Below.cell Bx (World.block_lt_of_cell? _ _ c5)).trans c5, (Below.cell Bx (World.block_lt_of_cell? _ _ a0)).trans a0, (Below.cell Bx (World.block_lt_of_cell? _ _ a1)).trans a1, (Below.cell Bx (World.block_lt_of_cell? _ _ a2)).trans a2, (Below.cell Bx (World.block_lt_of_cell? _ _ d1)).trans d1, (Below.cell Bx (World.block_lt_of_cell? _ _ x0)).trans x0, (Below.cell Bx (World.block_lt_of_cell? _ _ v0)).trans v0⟩
      have hcur6 := Aside0.mk (hcur.out.below Bx)
      have z1 : w6.frozen? ⟨gH, k, none⟩ = false := (hcur6.out.rH.cell k hk).2
      have v6 := f1.2.2.2.2.2.2
      clear Bx
      go_wp2_with fail
      refine hK.out _ _ f1 (fun hHeld2 => ?_)
      clear hK K
      try simp only [Act.put, List.setIfInBounds_toArray, List.set_cons_zero, List.set_cons_succ]
      refine Held.step_ 20 rfl rfl (by kernel_rfl) (fun K hK => ?_)
      go_simp
      refine hK.out _ _ f1 (fun hHeld3 => ?_)
      clear hK K
      try simp only [Act.put, List.setIfInBounds_toArray, List.set_cons_zero, List.set_cons_succ]
      refine Held.take_ (v := ?vv3295721) 21 rfl rfl (by kernel_rfl) (by kernel_rfl) (fun _ _ _ h => h) (by assumption) (Or.inl ⟨by rfl, ?hy3295721⟩) ?_
      case hy3295721 => intro w hSw; (try dsimp only at hSw); (go_simp <;> with_reducible rfl)
      try simp only [Act.put, List.setIfInBounds_toArray, List.set_cons_zero, List.set_cons_succ]
      refine Held.rest_ (by kernel_rfl) ?_
      simp only [List.drop_succ_cons, List.drop_zero]
      clear f1 hHeld hHeld2 hHeld3
      go_upto_region 8 with (fail)
      obtain ⟨x, w7, e1, e2, hN7, hR⟩ := nw_max hX.out.2.2.1 hJ.out.2 hk hcur6.out tk lk hlt.out.1 hlt.out.2
      rw [e1, e2]
      clear e1 e2 hcur6 z1 v6 hlt hcur hL hJ v0 c5 a0 a1 a2 d1 x0 hn1 hn2 hn3 hn4
      clear w6
      obtain ⟨T7, hT7⟩ : ∃ T7, T.set k x = T7 := ⟨_, rfl⟩
      rw [hT7] at hN7 hR
      clear hT7
      obtain ⟨gD, eD, hgD⟩ := dg_form hN7.rD (by omega)
      subst eD
      have c4 := (hN7.sf hBk.out).c4
      obtain ⟨ad2, A1, c1, eA, x0, hl1, hC1⟩ := at_L1 (hN7.sf hBk.out).D (k : Int) hk0 hk1
      injection eA with eA
      subst eA
      rw [rdL_dep hk] at x0 hl1 hC1
      rw [Int.toNat_natCast, addz] at x0
      have hrl := depP_len B k k
      have hmem : ∀ y ∈ depP B k k, ∃ i : Nat, y = (i : Int) ∧ i < k ∧ (insS W Lat B).D k i = true := fun y hy => by
        obtain ⟨i, h1, h2, h3⟩ := mem_depP.1 hy
        exact ⟨i, h1, h2, h3⟩
      have hall : ∀ i : Nat, i < k → (insS W Lat B).D k i = true → (i : Int) ∈ depP B k k := fun i h1 h2 => mem_depP.2 ⟨i, rfl, h1, h2⟩
      have hrdl := rdL_dep hk
      obtain ⟨row, hrow⟩ : ∃ row, depP B k k = row := ⟨_, rfl⟩
      rw [hrow] at x0 hl1 hC1 hrl hmem hall hrdl
      have hRow := Aside0.mk (And.intro hmem (And.intro hall (And.intro hgD (And.intro x0 hrdl))))
      have hrl2 : row.length ≤ 60 := by omega
      have hM : Aside0 (Nw w2 w7 p W R AL cL Lat.length (some ad) cI B.length (some ⟨gD, 0, none⟩) cD gH cH gY cY dlo dhi (depL B) T7 (cyM B.length k) ∧ Kp (fun q => q = gH) w7 w7 ∧ Hr (insS W Lat B) T7 k (fun i => ∃ (j' : Nat) (hj : j' < row.length), j' < 0 ∧ row[j'] = (i : Int))) :=
        ⟨hN7, Kp.refl _ _, hR.hp, hR.ze, hR.po, fun i q h1 h2 h3 h4 h5 h6 => hR.up i q h1 h2 h3 h4 (fun e => by obtain ⟨_, _, h, _⟩ := h5 e; omega) h6⟩
      clear hmem hall hgD hrow hN7 hR hrl hC1 hl1 hrdl
      go_wp2_with fail
      clear c4 x0
      go_loopg [66] row.length (fun q v wi => ∃ (j : Nat) (U : List Int), j + q = row.length ∧ v = .int .i64 (j : Int) ∧ Aside0 (Nw w2 wi p W R AL cL Lat.length (some ad) cI B.length (some ⟨gD, 0, none⟩) cD gH cH gY cY dlo dhi (depL B) U (cyM B.length k) ∧ Kp (fun q => q = gH) w7 wi ∧ Hr (insS W Lat B) U k (fun i => ∃ (j' : Nat) (hj : j' < row.length), j' < j ∧ row[j'] = (i : Int))))
      case atStart => exact ⟨0, T7, by omega, rfl, hM⟩
      case round =>
        obtain ⟨j, U, hj, rfl, hG⟩ := hrel
        clear hM
        by_cases hltj : j < row.length
        · have hlti : (j : Int) < row.length := by omega
          obtain ⟨gk1, rfl⟩ : ∃ q, gk = q + 1 := ⟨gk - 1, by omega⟩
          have hj1 : j + 1 + gk1 = row.length := by omega
          have hgk : gk1 < gk1 + 1 := by omega
          obtain ⟨i, hri, hik, hid⟩ := hRow.out.1 row[j] (List.getElem_mem hltj)
          have x0' : wr.cell? ⟨gD, k, none⟩ = some (.slice A1 row.length c1) := (cell_blk (hG.out.2.1.block hRow.out.2.2.1.2.2 (fun e => by have e : gD = gH := e; have h1 := hG.out.1.n1; have h2 := hRow.out.2.2.1; omega))).trans hRow.out.2.2.2.1
          obtain ⟨ad3, A2, c2, eA, x1, hl1, hC1⟩ := at_L1 (hG.out.1.sf hBk.out).D (k : Int) hk0 hk1
          injection eA with eA
          subst eA
          rw [hRow.out.2.2.2.2] at x1 hC1
          rw [Int.toNat_natCast, addz] at x1
          have eS := x0'.symm.trans x1
          simp only [Option.some.injEq, Value.slice.injEq] at eS
          obtain ⟨eS1, _, eS2⟩ := eS
          subst eS1
          subst eS2
          obtain ⟨aR, eA, b1⟩ := Kd.at_int hC1 (j : Int) (by omega) hlti
          subst eA
          rw [rd_get row j hltj, hri, Int.toNat_natCast] at b1
          clear x0' x1 hl1 hC1
          have c5 := (hG.out.1.sf hBk.out).c5
          obtain ⟨v0, v1⟩ := hG.out.1.rH.cell i (by omega)
          obtain ⟨v2, _⟩ := hG.out.1.rH.cell k hk
          have hb1 := hG.out.2.2.bd hX.out.2.2.1 i (show i < B.length by omega)
          have hb2 := hG.out.2.2.bd hX.out.2.2.1 k hk
          have hb3 := hX.out.2.2.1.dl1 i k
          have hi0 : (0 : Int) ≤ (i : Int) := by omega
          have hi1 : (i : Int) < (B.length : Int) := by omega
          have hcall := Aside0.mk (fun (W1 : World) (e1 : Below wr.heap.size wr W1) => delay_any ((hG.out.1.below e1).sf hBk.out) hX.out.2.1 i k (by omega) hk)
          obtain ⟨ti, hti⟩ : ∃ x, rd U (i : Int) = x := ⟨_, rfl⟩
          obtain ⟨tk, htk⟩ : ∃ x, rd U (k : Int) = x := ⟨_, rfl⟩
          obtain ⟨d, hd⟩ : ∃ x, (insS W Lat B).dl i k = x := ⟨_, rfl⟩
          rw [hti] at v0 hb1
          rw [htk] at v2 hb2
          rw [hd] at hcall hb3
          have hw : IntKind.i64.wrap (d + tk) = d + tk := (IntKind.wrap_i64 _).trans (by omega)
          obtain ⟨sm, hsm⟩ : ∃ x, d + tk = x := ⟨_, rfl⟩
          have hn1 : ¬ gH = p := hG.out.1.n4
          have hFa := Aside0.mk (And.intro hri (And.intro hti (And.intro htk (And.intro hd (And.intro hsm (And.intro hw (And.intro hik hid)))))))
          clear hri hti htk hd hsm hid hw hb1 hb2 hb3
          go_upto_region 11 with (fail)
          refine Held.begin_ (S := fun W1 => W1.cell? ⟨p, 5, none⟩ = some (.slice (some ⟨gH, 0, none⟩) B.length cH) ∧ W1.cell? ⟨gH, i, none⟩ = some (.int .i64 ti) ∧ W1.cell? ⟨gH, k, none⟩ = some (.int .i64 tk)) 26 (by kernel_rfl) (by kernel_rfl) ?_ (fun hHeld => ?_)
          · exact ⟨c5, v0, v2⟩
          simp only [List.length_cons, List.length_nil, Nat.reduceAdd, List.replicate, Array.replicate]
          refine Held.take_ (v := ?vv3842700) 0 rfl rfl (by kernel_rfl) (by kernel_rfl) (fun _ _ _ h => h) (by assumption) (Or.inl ⟨by rfl, ?hy3842700⟩) ?_
          case hy3842700 => intro w hSw; (try dsimp only at hSw); (go_simp <;> with_reducible rfl)
          try simp only [Act.put, List.setIfInBounds_toArray, List.set_cons_zero, List.set_cons_succ]
          refine Held.take_ (v := ?vv3842701) 1 rfl rfl (by kernel_rfl) (by kernel_rfl) (fun _ _ _ h => h) (by assumption) (Or.inl ⟨by rfl, ?hy3842701⟩) ?_
          case hy3842701 => intro w hSw; (try dsimp only at hSw); (go_simp <;> with_reducible rfl)
          try simp only [Act.put, List.setIfInBounds_toArray, List.set_cons_zero, List.set_cons_succ]
          refine Held.take_ (v := ?vv3842702) 2 rfl rfl (by kernel_rfl) (by kernel_rfl) (fun _ _ _ h => h) (by assumption) (Or.inl ⟨by rfl, ?hy3842702⟩) ?_
          case hy3842702 => intro w hSw; (try dsimp only at hSw); (go_simp <;> with_reducible rfl)
          try simp only [Act.put, List.setIfInBounds_toArray, List.set_cons_zero, List.set_cons_succ]
          refine Held.take_ (v := ?vv3842703) 3 rfl rfl (by kernel_rfl) (by kernel_rfl) (fun _ _ _ h => h) (by assumption) (Or.inl ⟨by rfl, ?hy3842703⟩) ?_
          case hy3842703 => intro w hSw; (try dsimp only at hSw); (go_simp <;> with_reducible rfl)
          try simp only [Act.put, List.setIfInBounds_toArray, List.set_cons_zero, List.set_cons_succ]
          refine Held.take_ (v := ?vv3842704) 4 rfl rfl (by kernel_rfl) (by kernel_rfl) (fun _ _ _ h => h) (by assumption) (Or.inl ⟨by rfl, ?hy3842704⟩) ?_
          case hy3842704 => intro w hSw; (try dsimp only at hSw); (go_simp <;> with_reducible rfl)
          try simp only [Act.put, List.setIfInBounds_toArray, List.set_cons_zero, List.set_cons_succ]
          refine Held.take_ (v := ?vv3842705) 5 rfl rfl (by kernel_rfl) (by kernel_rfl) (fun _ _ _ h => h) (by assumption) (Or.inl ⟨by rfl, ?hy3842705⟩) ?_
          case hy3842705 => intro w hSw; (try dsimp only at hSw); (go_simp <;> with_reducible rfl)
          try simp only [Act.put, List.setIfInBounds_toArray, List.set_cons_zero, List.set_cons_succ]
          refine Held.take_ (v := ?vv3842706) 6 rfl rfl (by kernel_rfl) (by kernel_rfl) (fun _ _ _ h => h) (by assumption) (Or.inl ⟨by rfl, ?hy3842706⟩) ?_
          case hy3842706 => intro w hSw; (try dsimp only at hSw); (go_simp <;> with_reducible rfl)
          try simp only [Act.put, List.setIfInBounds_toArray, List.set_cons_zero, List.set_cons_succ]
          refine Held.take_ (v := ?vv3842707) 7 rfl rfl (by kernel_rfl) (by kernel_rfl) (fun _ _ _ h => h) (by assumption) (Or.inl ⟨by rfl, ?hy3842707⟩) ?_
          case hy3842707 => intro w hSw; (try dsimp only at hSw); (go_simp <;> with_reducible rfl)
          try simp only [Act.put, List.setIfInBounds_toArray, List.set_cons_zero, List.set_cons_succ]
          refine Held.take_ (v := ?vv3842708) 8 rfl rfl (by kernel_rfl) (by kernel_rfl) (fun _ _ _ h => h) (by assumption) (Or.inl ⟨by rfl, ?hy3842708⟩) ?_
          case hy3842708 => intro w hSw; (try dsimp only at hSw); (go_simp <;> with_reducible rfl)
          try simp only [Act.put, List.setIfInBounds_toArray, List.set_cons_zero, List.set_cons_succ]
          refine Held.take_ (v := ?vv3842709) 9 rfl rfl (by kernel_rfl) (by kernel_rfl) (fun _ _ _ h => h) (by assumption) (Or.inl ⟨by rfl, ?hy3842709⟩) ?_
          case hy3842709 => intro w hSw; (try dsimp only at hSw); (go_simp <;> with_reducible rfl)
          try simp only [Act.put, List.setIfInBounds_toArray, List.set_cons_zero, List.set_cons_succ]
          refine Held.take_ (v := ?vv3842710) 10 rfl rfl (by kernel_rfl) (by kernel_rfl) (fun _ _ _ h => h) (by assumption) (Or.inl ⟨by rfl, ?hy3842710⟩) ?_
          case hy3842710 => intro w hSw; (try dsimp only at hSw); (go_simp <;> with_reducible rfl)
          try simp only [Act.put, List.setIfInBounds_toArray, List.set_cons_zero, List.set_cons_succ]
          refine Held.take_ (v := ?vv3842711) 11 rfl rfl (by kernel_rfl) (by kernel_rfl) (fun _ _ _ h => h) (by assumption) (Or.inl ⟨by rfl, ?hy3842711⟩) ?_
          case hy3842711 => intro w hSw; (try dsimp only at hSw); (go_simp <;> with_reducible rfl)
          try simp only [Act.put, List.setIfInBounds_toArray, List.set_cons_zero, List.set_cons_succ]
          refine Held.take_ (v := ?vv3842712) 12 rfl rfl (by kernel_rfl) (by kernel_rfl) (fun _ _ _ h => h) (by assumption) (Or.inl ⟨by rfl, ?hy3842712⟩) ?_
          case hy3842712 => intro w hSw; (try dsimp only at hSw); (go_simp <;> with_reducible rfl)
          try simp only [Act.put, List.setIfInBounds_toArray, List.set_cons_zero, List.set_cons_succ]
          refine Held.take_ (v := ?vv3842713) 13 rfl rfl (by kernel_rfl) (by kernel_rfl) (fun _ _ _ h => h) (by assumption) (Or.inl ⟨by rfl, ?hy3842713⟩) ?_
          case hy3842713 => intro w hSw; (try dsimp only at hSw); (go_simp <;> with_reducible rfl)
          try simp only [Act.put, List.setIfInBounds_toArray, List.set_cons_zero, List.set_cons_succ]
          refine Held.take_ (v := ?vv3842714) 14 rfl rfl (by kernel_rfl) (by kernel_rfl) (fun _ _ _ h => h) (by assumption) (Or.inl ⟨by rfl, ?hy3842714⟩) ?_
          case hy3842714 => intro w hSw; (try dsimp only at hSw); (go_simp <;> with_reducible rfl)
          try simp only [Act.put, List.setIfInBounds_toArray, List.set_cons_zero, List.set_cons_succ]
          refine Held.take_ (v := ?vv3842716) 16 rfl rfl (by kernel_rfl) (by kernel_rfl) (fun _ _ _ h => h) (by assumption) (Or.inl ⟨by rfl, ?hy3842716⟩) ?_
          case hy3842716 => intro w hSw; (try dsimp only at hSw); (go_simp <;> with_reducible rfl)
          try simp only [Act.put, List.setIfInBounds_toArray, List.set_cons_zero, List.set_cons_succ]
          refine Held.take_ (v := ?vv3842717) 17 rfl rfl (by kernel_rfl) (by kernel_rfl) (fun _ _ _ h => h) (by assumption) (Or.inl ⟨by rfl, ?hy3842717⟩) ?_
          case hy3842717 => intro w hSw; (try dsimp only at hSw); (go_simp <;> with_reducible rfl)
          try simp only [Act.put, List.setIfInBounds_toArray, List.set_cons_zero, List.set_cons_succ]
          refine Held.take_ (v := ?vv3842718) 18 rfl rfl (by kernel_rfl) (by kernel_rfl) (fun _ _ _ h => h) (by assumption) (Or.inl ⟨by rfl, ?hy3842718⟩) ?_
          case hy3842718 => intro w hSw; (try dsimp only at hSw); (go_simp <;> with_reducible rfl)
          try simp only [Act.put, List.setIfInBounds_toArray, List.set_cons_zero, List.set_cons_succ]
          refine Held.take_ (v := ?vv3842719) 19 rfl rfl (by kernel_rfl) (by kernel_rfl) (fun _ _ _ h => h) (by assumption) (Or.inl ⟨by rfl, ?hy3842719⟩) ?_
          case hy3842719 => intro w hSw; (try dsimp only at hSw); (go_simp <;> with_reducible rfl)
          try simp only [Act.put, List.setIfInBounds_toArray, List.set_cons_zero, List.set_cons_succ]
          refine Held.take_ (v := ?vv3842720) 20 rfl rfl (by kernel_rfl) (by kernel_rfl) (fun _ _ _ h => h) (by assumption) (Or.inl ⟨by rfl, ?hy3842720⟩) ?_
          case hy3842720 => intro w hSw; (try dsimp only at hSw); (go_simp <;> with_reducible rfl)
          try simp only [Act.put, List.setIfInBounds_toArray, List.set_cons_zero, List.set_cons_succ]
          refine Held.take_ (v := ?vv3842721) 21 rfl rfl (by kernel_rfl) (by kernel_rfl) (fun _ _ _ h => h) (by assumption) (Or.inl ⟨by rfl, ?hy3842721⟩) ?_
          case hy3842721 => intro w hSw; (try dsimp only at hSw); (go_simp <;> with_reducible rfl)
          try simp only [Act.put, List.setIfInBounds_toArray, List.set_cons_zero, List.set_cons_succ]
          refine Held.take_ (v := ?vv3842722) 22 rfl rfl (by kernel_rfl) (by kernel_rfl) (fun _ _ _ h => h) (by assumption) (Or.inl ⟨by rfl, ?hy3842722⟩) ?_
          case hy3842722 => intro w hSw; (try dsimp only at hSw); (go_simp <;> with_reducible rfl)
          try simp only [Act.put, List.setIfInBounds_toArray, List.set_cons_zero, List.set_cons_succ]
          refine Held.step_ 15 rfl rfl (by kernel_rfl) (fun K hK => ?_)
          go_simp
          go_at_call 39
          with_reducible refine (hcall.out _ (below_drew (Below.refl _ _))).mono ?_
          rintro e' w6 ⟨rfl, Bx0⟩
          have Bx : Below wr.heap.size wr w6 := (below_drew (Below.refl _ wr)).trans Bx0
          clear Bx0
          have f1 : w6.cell? ⟨p, 5, none⟩ = some (.slice (some ⟨gH, 0, none⟩) B.length cH) ∧ w6.cell? ⟨gH, i, none⟩ = some (.int .i64 ti) ∧ w6.cell? ⟨gH, k, none⟩ = some (.int .i64 tk) :=
            ⟨(Below.cell Bx (World.block_lt_of_cell? _ _ c5)).trans c5, (Below.cell Bx (World.block_lt_of_cell? _ _ v0)).trans v0, (Below.cell Bx (World.block_lt_of_cell? _ _ v2)).trans v2⟩
          have v6 := f1.2.1
          have hcur6 := Aside0.mk (And.intro (hG.out.1.below Bx) (hG.out.2.1.then_ (Kp.of_below Bx (fun _ => False)) (fun _ h => h.elim)))
          have z1 : w6.frozen? ⟨gH, i, none⟩ = false := (hcur6.out.1.rH.cell i (by omega)).2
          clear Bx
          go_wp2_with fail
          refine hK.out _ _ f1 (fun hHeld2 => ?_)
          clear hK K
          try simp only [Act.put, List.setIfInBounds_toArray, List.set_cons_zero, List.set_cons_succ]
          refine Held.take_ (v := ?vv3973423) 23 rfl rfl (by kernel_rfl) (by kernel_rfl) (fun _ _ _ h => h) (by assumption) (Or.inl ⟨by rfl, ?hy3973423⟩) ?_
          case hy3973423 => intro w hSw; (try dsimp only at hSw); (go_simp <;> with_reducible rfl)
          try simp only [Act.put, List.setIfInBounds_toArray, List.set_cons_zero, List.set_cons_succ]
          refine Held.step_ 24 rfl rfl (by kernel_rfl) (fun K hK => ?_)
          go_simp
          refine hK.out _ _ f1 (fun hHeld3 => ?_)
          clear hK K
          try simp only [Act.put, List.setIfInBounds_toArray, List.set_cons_zero, List.set_cons_succ]
          refine Held.take_ (v := ?vv4001825) 25 rfl rfl (by kernel_rfl) (by kernel_rfl) (fun _ _ _ h => h) (by assumption) (Or.inl ⟨by rfl, ?hy4001825⟩) ?_
          case hy4001825 => intro w hSw; (try dsimp only at hSw); (go_simp <;> with_reducible rfl)
          try simp only [Act.put, List.setIfInBounds_toArray, List.set_cons_zero, List.set_cons_succ]
          refine Held.rest_ (by kernel_rfl) ?_
          simp only [List.drop_succ_cons, List.drop_zero]
          clear f1 hHeld hHeld2 hHeld3
          go_upto_region 12 with (fail)
          rw [hFa.out.2.2.2.2.2.1, show wrap64 (d + tk) = d + tk from (by have h9 := hFa.out.2.2.2.2.2.1; rw [IntKind.wrap_i64] at h9; unfold wrap64; exact h9), hFa.out.2.2.2.2.1]
          obtain ⟨x, w8, e1, e2, hN8, hK8, hR8⟩ := nw_max2 (fun a => ∃ (j' : Nat) (hj : j' < row.length), j' < j + 1 ∧ row[j'] = (a : Int)) hG.out.2.2 hk hFa.out.2.2.2.2.2.2.1 hFa.out.2.2.2.2.2.2.2 (fun a ha => by
            obtain ⟨j', hj', h1, h2⟩ := ha
            by_cases e : j' = j
            · subst e
              right
              have := hFa.out.1
              omega
            · exact .inl ⟨j', hj', by omega, h2⟩) hcur6.out.1 hcur6.out.2 ti tk d sm hFa.out.2.2.2.1 hFa.out.2.2.1 hFa.out.2.1 hFa.out.2.2.2.2.1
          rw [e1, e2]
          replace hN8 := Aside0.mk (And.intro hN8 (And.intro hK8 hR8))
          clear e1 e2 hK8 hR8 v6 hcur6 z1
          clear w6
          clear hG hRow hcall c5 v0 v1 v2 b1 hFa hn1
          go_wp2_with fail
          go_roundg gk1
          case rel => exact ⟨j + 1, U.set i x, hj1, by go_num, hN8⟩
          case measure => exact hgk
        · have hRd := hG.out.2.2.done (fun i h1 h2 => by
            obtain ⟨j', hj', e⟩ := List.getElem_of_mem (hRow.out.2.1 i h1 h2)
            exact ⟨j', hj', by omega, e⟩)
          have hI1 : Aside0 (Nw w2 wr p W R AL cL Lat.length (some ad) cI B.length (some ⟨gD, 0, none⟩) cD gH cH gY cY dlo dhi (depL B) U (cyM B.length k) ∧ Hr (insS W Lat B) U k (fun _ => True)) := ⟨hG.out.1, hRd⟩
          clear hG hRd hRow
          go_wp2_with fail
          go_roundg k
          case rel => exact ⟨(k : Int) - 1, U, rfl, by omega, by first | rfl | go_num | (congr 1), hI1⟩
          case measure => exact Nat.lt_succ_self k
    · obtain rfl : gk = 0 := by omega
      have hE := Aside0.mk (nw_end hX.out.2.2.2.1 hBk.out hJ.out.1 hJ.out.2.hp)
      clear hJ hCl hBk hX
      go_wp2
      go_ret
      exact hE.out
end
end Go.Proofs.YtjacphcbiaacnaaDoor
end

