import Derived.Deep.LoopGhost
import Derived.Deep.RegionLaw
import Derived.StillTail
import Derived.Deep.RegionHeld3
import Derived.Test.YtjacphcbiaacnaaDoorMSOR15
section
/- The scheduler's run. -/
set_option linter.unusedVariables false
set_option linter.unusedSimpArgs false
set_option linter.unusedSectionVars false
namespace Go.Proofs.YtjacphcbiaacnaaDoor
open Go.RowKit Go.Proofs.YtjacphcbiaacnaaDoorW.PrintWords Go.Proofs.YtjacphcbiaacnaaDoor.PDigraphTells Mem Sc

/-- The run's rows: order vo, cycles vy; blocks of Z are kept clear. -/
structure Rn (w wi : World) (gc cY n : Nat) (Z : Nat → Prop) (s : St) (vo vy : Value) : Prop where
  K : Kp (fun k => k = gc) w wi
  Y : Kd.R (Kd.int .i64) 3 wi 0 (fun k => k = gc) (.slice (some ⟨gc, 0, none⟩) n cY) (tbn n s.t)
  ex : ∃ P O : Nat → Prop, (∀ k, P k → w.heap.size ≤ k ∧ k < wi.heap.size ∧ ¬ Z k) ∧ (∀ k, O k → w.heap.size ≤ k ∧ k < wi.heap.size ∧ ¬ Z k) ∧ (∀ k, P k → ¬ O k) ∧ Kd.R (Kd.int .i64) 3 wi 0 P vo (oL s) ∧ Kd.R (Kd.int .i64) 3 wi 0 O vy s.y
theorem Rn.step {w wi wj : World} {gc cY n : Nat} {Z : Nat → Prop} {s : St} {vo vy : Value} (h : Rn w wi gc cY n Z s vo vy) (hb : Below wi.heap.size wi wj) (hg : gc < wi.heap.size) : Rn w wj gc cY n Z s vo vy := by
  obtain ⟨P, O, h1, h2, h3, h4, h5⟩ := h.ex
  refine ⟨h.K.then_ (Kp.of_below hb (fun _ => False)) (fun _ h => h.elim), Kd.R_step h.Y (fun k hk hlt => hb.block k hlt), P, O, fun k hk => ?_, fun k hk => ?_, h3, Kd.R_step h4 (fun k hk hlt => hb.block k hlt), Kd.R_step h5 (fun k hk hlt => hb.block k hlt)⟩
  · have := h1 k hk; exact ⟨this.1, Nat.lt_of_lt_of_le this.2.1 hb.size, this.2.2⟩
  · have := h2 k hk; exact ⟨this.1, Nat.lt_of_lt_of_le this.2.1 hb.size, this.2.2⟩
theorem Rn.zone {w wi : World} {gc cY n : Nat} {Z Z' : Nat → Prop} {s : St} {vo vy : Value} (h : Rn w wi gc cY n Z s vo vy) (hz : ∀ k, k < wi.heap.size → Z' k → Z k) : Rn w wi gc cY n Z' s vo vy := by
  obtain ⟨P, O, h1, h2, h3, h4, h5⟩ := h.ex
  exact ⟨h.K, h.Y, P, O, fun k hk => ⟨(h1 k hk).1, (h1 k hk).2.1, fun z => (h1 k hk).2.2 (hz k (h1 k hk).2.1 z)⟩, fun k hk => ⟨(h2 k hk).1, (h2 k hk).2.1, fun z => (h2 k hk).2.2 (hz k (h2 k hk).2.1 z)⟩, h3, h4, h5⟩
/-- A store into the cycles' row. -/
theorem Rn.store {w wi : World} {gc cY n : Nat} {Z : Nat → Prop} {s : St} {vo vy : Value} (h : Rn w wi gc cY n Z s vo vy) (hgc : gc < w.heap.size) (k : Nat) (c : Int) : Kp (fun k => k = gc) w (wi.setCell ⟨gc, k, none⟩ (.int .i64 c)) ∧ Kd.R (Kd.int .i64) 3 (wi.setCell ⟨gc, k, none⟩ (.int .i64 c)) 0 (fun k => k = gc) (.slice (some ⟨gc, 0, none⟩) n cY) (tbn n (s.put k c).t) ∧
    ∃ P O : Nat → Prop, (∀ k, P k → w.heap.size ≤ k ∧ k < wi.heap.size ∧ ¬ Z k) ∧ (∀ k, O k → w.heap.size ≤ k ∧ k < wi.heap.size ∧ ¬ Z k) ∧ (∀ k, P k → ¬ O k) ∧ Kd.R (Kd.int .i64) 3 (wi.setCell ⟨gc, k, none⟩ (.int .i64 c)) 0 P vo (oL s) ∧ Kd.R (Kd.int .i64) 3 (wi.setCell ⟨gc, k, none⟩ (.int .i64 c)) 0 O vy s.y := by
  obtain ⟨P, O, h1, h2, h3, h4, h5⟩ := h.ex
  have hp := (Kd.R_putg h.Y (k : Int) c).1
  rw [Int.toNat_natCast, tbn_set] at hp
  refine ⟨h.K.setCell (p := ⟨gc, k, none⟩) (.inl rfl) _, hp, P, O, h1, h2, h3, Kd.R_step h4 (fun q hq _ => Below.heap_setCell wi ⟨gc, k, none⟩ _ q (fun e => ?_)), Kd.R_step h5 (fun q hq _ => Below.heap_setCell wi ⟨gc, k, none⟩ _ q (fun e => ?_))⟩
  · have := (h1 q hq).1; have e : q = gc := e; omega
  · have := (h2 q hq).1; have e : q = gc := e; omega
theorem new0 (w : World) (v : Value) : (w.alloc (.cells #[v] 3 (0, 0))).cell? ⟨w.heap.size, 0, none⟩ = some v := cell_at (heap_alloc_new w _) rfl
theorem new1 (w : World) (v : Value) (o : Obj) : ((w.alloc (.cells #[v] 3 (0, 0))).alloc o).cell? ⟨w.heap.size, 0, none⟩ = some v := by
  refine cell_at (p := w.heap.size) (t := 3) (cs := #[v]) ?_ rfl
  rw [Below.heap_alloc _ _ _ (by simp)]
  exact heap_alloc_new w _
theorem new2 (w : World) (v : Value) (o : Obj) : ((w.alloc o).alloc (.cells #[v] 3 (0, 0))).cell? ⟨w.heap.size + 1, 0, none⟩ = some v := by
  simp
theorem rr_lit (W : World) (g : Nat) (v : Int) (h : W.cell? ⟨g, 0, none⟩ = some (.int .i64 v)) : ReadsRow (fun x c => c = [Value.int .i64 x]) 1 W (some ⟨g, 0, none⟩) 1 [v] := by
  refine ⟨rfl, by omega, fun _ => ⟨_, rfl, fun j q hj => ?_⟩⟩
  rcases j with _ | j
  · obtain rfl : v = q := by simpa using hj
    refine ⟨[.int .i64 v], rfl, rfl, fun i u hu => ?_⟩
    rcases i with _ | i
    · obtain rfl : Value.int .i64 v = u := by simpa using hu
      simpa [Addr.add] using h
    · simp at hu
  · simp at hj
theorem cell_blk {w W : World} {a : Addr} (h : W.heap[a.block]? = w.heap[a.block]?) : W.cell? a = w.cell? a := by simp [World.cell?, h]
theorem bel_of {w5 W1 wa : World} {row : Option Nat} (h : W1.grownBy wa row) (hb : Below w5.heap.size w5 W1) : Below w5.heap.size w5 W1 := hb
/-- Two appends, one to each row. -/
theorem Rn.app {w w5 W1 wa W2 wb : World} {gc cY n : Nat} {Z P O : Nat → Prop} {s2 : St} {k : Nat} {c : Int} {u2 u3 v1 v2 : Value} (hgc : gc < w.heap.size)
    (q1 : Kp (fun k => k = gc) w w5) (q2 : Kd.R (Kd.int .i64) 3 w5 0 (fun k => k = gc) (.slice (some ⟨gc, 0, none⟩) n cY) (tbn n (s2.put k c).t))
    (q3 : ∀ k, P k → w.heap.size ≤ k ∧ k < w5.heap.size ∧ ¬ Z k) (q4 : ∀ k, O k → w.heap.size ≤ k ∧ k < w5.heap.size ∧ ¬ Z k) (q5 : ∀ k, P k → ¬ O k) (q6 : Kd.R (Kd.int .i64) 3 w5 0 P u2 (oL s2)) (q7 : Kd.R (Kd.int .i64) 3 w5 0 O u3 s2.y) (hz : ∀ k, Z k → k < w5.heap.size)
    (B1 : Below w5.heap.size w5 W1) (gA : W1.grownBy wa u2.ownBlock) (RA : Kd.R (Kd.int .i64) 3 wa 0 (fun q => P q ∨ w5.heap.size ≤ q) v1 (oL s2 ++ [(k : Int)])) (atA : v1.ownBlock = u2.ownBlock ∨ ∃ b, v1.ownBlock = some b ∧ W1.heap.size ≤ b)
    (B2 : Below wa.heap.size wa W2) (gB : W2.grownBy wb u3.ownBlock) (RB : Kd.R (Kd.int .i64) 3 wb 0 (fun q => O q ∨ w5.heap.size ≤ q) v2 (s2.y ++ [c])) (atB : v2.ownBlock = u3.ownBlock ∨ ∃ b, v2.ownBlock = some b ∧ W2.heap.size ≤ b) :
    Rn w wb gc cY n Z (s2.put k c) v1 v2 ∧ ∀ b, Z b → wb.heap[b]? = w5.heap[b]? := by
  have hw5 : w.heap.size ≤ w5.heap.size := q1.size
  have h2 : ∀ q, u2.ownBlock = some q → P q := q6.1
  have h3 : ∀ q, u3.ownBlock = some q → O q := q7.1
  have sA : W1.heap.size ≤ wa.heap.size := gA.size
  have sB : W2.heap.size ≤ wb.heap.size := gB.size
  have keep : ∀ q, q < w5.heap.size → ¬ P q → ¬ O q → wb.heap[q]? = w5.heap[q]? := fun q hq hp ho => by
    have l1 : q < W1.heap.size := Nat.lt_of_lt_of_le hq B1.size
    have l2 : q < wa.heap.size := Nat.lt_of_lt_of_le l1 sA
    have l3 : q < W2.heap.size := Nat.lt_of_lt_of_le l2 B2.size
    rw [gB.block q l3 (fun e => ho (h3 q e.symm)), B2.block q l2, gA.block q l1 (fun e => hp (h2 q e.symm)), B1.block q hq]
  have b1 : ∀ q, some q = v1.ownBlock → q < wa.heap.size := fun q hq => (Kd.R_bound RA).1 q hq.symm |>.2.2.1
  have b2 : ∀ q, some q = v2.ownBlock → q < wb.heap.size := fun q hq => (Kd.R_bound RB).1 q hq.symm |>.2.2.1
  have o1 : ∀ q, some q = v1.ownBlock → P q ∨ w5.heap.size ≤ q := fun q hq => RA.1 q hq.symm
  have o2 : ∀ q, some q = v2.ownBlock → O q ∨ w5.heap.size ≤ q := fun q hq => RB.1 q hq.symm
  have hne : ∀ q, some q = v1.ownBlock → some q ≠ u3.ownBlock := fun q hq e => by
    have h9 := h3 q e.symm
    rcases o1 q hq with h8 | h8
    · exact q5 q h8 h9
    · have := (q4 q h9).2.1; omega
  have hR1 : Kd.R (Kd.int .i64) 3 wb 0 (fun q => some q = v1.ownBlock) v1 (oL s2 ++ [(k : Int)]) := by
    refine Kd.R_step (Kd.R_step (Kd.R_tight rfl RA) (fun q _ hlt => B2.block q hlt)) (fun q hq hlt => gB.block q hlt (hne q hq))
  refine ⟨⟨?_, Kd.R_step q2 (fun q hq hlt => ?_), fun q => some q = v1.ownBlock, fun q => some q = v2.ownBlock, fun q hq => ?_, fun q hq => ?_, fun q hq hq2 => ?_, by rw [oL_put]; exact hR1, Kd.R_tight rfl RB⟩, fun q hq => ?_⟩
  · have k1 : Kp (fun q => w.heap.size ≤ q) w5 wb := (((Kp.of_below B1 (fun q => w.heap.size ≤ q)).grown gA (fun q hq => .inl (q3 q (h2 q hq)).1)).then_ (Kp.of_below B2 (fun q => w.heap.size ≤ q)) (fun q hq => .inl hq)).grown gB (fun q hq => .inl (q4 q (h3 q hq)).1)
    exact q1.then_ k1 (fun q hq => .inr hq)
  · subst hq
    exact keep q hlt (fun h => by have := (q3 q h).1; omega) (fun h => by have := (q4 q h).1; omega)
  · have hb := b1 q hq
    rcases o1 q hq with h8 | h8
    · have := q3 q h8
      exact ⟨this.1, by have := B2.size; omega, this.2.2⟩
    · exact ⟨by omega, by have := B2.size; omega, fun hz2 => by have := hz q hz2; omega⟩
  · have hb := b2 q hq
    rcases o2 q hq with h8 | h8
    · have := q4 q h8
      exact ⟨this.1, hb, this.2.2⟩
    · exact ⟨by omega, hb, fun hz2 => by have := hz q hz2; omega⟩
  · have hq2 : some q = v2.ownBlock := hq2
    rcases atB with h8 | ⟨b, h8, h9⟩
    · exact hne q hq (by rw [← h8]; exact hq2)
    · rw [h8] at hq2
      have : q = b := by injection hq2
      have := b1 q hq
      have := B2.size
      omega
  · have hlt := hz q hq
    exact keep q hlt (fun h => (q3 q h).2.2 hq) (fun h => (q4 q h).2.2 hq)
/-- At the head of a cycle. -/
structure OI (w wi : World) (p gc cY bs bc : Nat) (S : Ins) (h : Nat → Int) (fs : St) (q : Nat) (s : St) (c : Int) (vo vy : Value) : Prop where
  rn : Rn w wi gc cY S.n (fun k => k = bs ∨ k = bc) s vo vy
  z1 : wi.heap[bs]? = some (.cells #[.pointer (some ⟨p, 0, none⟩)] 60 (0, 0))
  z2 : wi.heap[bc]? = some (.cells #[.int .i64 c] 3 (0, 0))
  inv : Inv S s c
  cb : 0 ≤ c ∧ c + q ≤ 100000
  end_ : run S h q c s = fs
  bb : w.heap.size ≤ bc ∧ bc ≠ bs
/-- Within a cycle: m issues are left. -/
structure II (w wi : World) (p gc cY bs bc : Nat) (S : Ins) (h : Nat → Int) (s0 : St) (m : Nat) (s : St) (c : Int) (vo vy : Value) : Prop where
  rn : Rn w wi gc cY S.n (fun k => k = bs ∨ k = bc) s vo vy
  z1 : wi.heap[bs]? = some (.cells #[.pointer (some ⟨p, 0, none⟩)] 60 (0, 0))
  z2 : wi.heap[bc]? = some (.cells #[.int .i64 c] 3 (0, 0))
  inv : Inv S s c
  end_ : issue S h c m s = issue S h c S.w s0
theorem II.step {w wi wj : World} {p gc cY bs bc : Nat} {S : Ins} {h : Nat → Int} {s0 s : St} {m : Nat} {c : Int} {vo vy : Value} (K : II w wi p gc cY bs bc S h s0 m s c vo vy) (hb : Below wi.heap.size wi wj) (hg : gc < wi.heap.size) : II w wj p gc cY bs bc S h s0 m s c vo vy :=
  ⟨K.rn.step hb hg, (hb.block _ (blk_lt' K.z1)).trans K.z1, (hb.block _ (blk_lt' K.z2)).trans K.z2, K.inv, K.end_⟩
theorem Rn.dn {w wi : World} {gc cY n : Nat} {Z : Nat → Prop} {s : St} {vo vy : Value} (h : Rn w wi gc cY n Z s vo vy) (h9 : DN w) (hg : 0 < gc) : DN wi := by
  have := h.K.block h9.pos (fun e => by omega)
  refine ⟨?_, ?_⟩
  · have h8 := h9.1
    simp only [World.cell?, this] at h8 ⊢
    exact h8
  · have h8 := h9.2
    simp only [World.cell?, this] at h8 ⊢
    exact h8
theorem OI.next {w wi : World} {p gc cY bs bc : Nat} {S : Ins} {h : Nat → Int} {fs : St} {q : Nat} {s : St} {c : Int} {vo vy : Value} {vo2 vy2 : Value} {wx : World} {s2 : St} (H : OI w wi p gc cY bs bc S h fs (q + 1) s c vo vy) (hlt : s.o.length < S.n) (K : II w wx p gc cY bs bc S h s 0 s2 c vo2 vy2) (hg : gc < wx.heap.size) (hw : w.heap.size ≤ wx.heap.size) (hb : bs < wx.heap.size) :
    OI w (wx.alloc (.cells #[.int .i64 (c + 1)] 3 (0, 0))) p gc cY bs wx.heap.size S h fs q s2 (c + 1) vo2 vy2 := by
  have e1 : s2 = issue S h c S.w s := K.end_
  have ha : (wx.alloc (.cells #[.int .i64 (c + 1)] 3 (0, 0))).heap.size = wx.heap.size + 1 := by simp
  refine ⟨Rn.step (K.rn.zone (fun k hk hz => ?_)) (below_alloc (Below.refl _ wx) _) hg, ?_, heap_alloc_new wx _, K.inv.later (by omega), ⟨by have := H.cb; omega, by have := H.cb; omega⟩, ?_, hw, by omega⟩
  · rcases hz with hz | hz
    · exact .inl hz
    · omega
  · rw [Below.heap_alloc _ _ _ hb]; exact K.z1
  · rw [← H.end_, e1, run, if_pos hlt]
set_option maxRecDepth 100000 in
set_option maxHeartbeats 4000000 in
theorem run_zero {w : World} {p : Nat} {W R : Int} {AL : Option Addr} {cL : Nat} {Lat : List Int} {AI : Option Addr} {cI : Nat} {B : List S48} {AD : Option Addr} {cD : Nat} {AH : Option Addr} {cH : Nat} {T : List Int} {AY : Option Addr} {cY : Nat} {Y : List Int}
    (h : Sf w p W R AL cL Lat AI cI B AD cD AH cH T AY cY Y) (hn : B.length = 0) :
    Calls Tryd.prog 27 #[.pointer (some ⟨p, 0, none⟩)] w fun e w' => e = .returned (.tuple #[.slice none 0 0, .slice none 0 0]) ∧ Below w.heap.size w w' := by
  obtain ⟨w2, hw2⟩ : ∃ w2, w2 = (w.alloc (.cells #[.pointer (some ⟨p, 0, none⟩)] 60 (0, 0))).alloc (.cells #[.int .i64 0] 3 (0, 0)) := ⟨_, rfl⟩
  have B2 : Below w.heap.size w w2 := by rw [hw2]; exact below_alloc (below_alloc (Below.refl _ w) _) _
  have a3' := (h.below B2).c3
  rw [hw2] at a3'
  have c1 : ((w.alloc (.cells #[.pointer (some ⟨p, 0, none⟩)] 60 (0, 0))).alloc (.cells #[.int .i64 0] 3 (0, 0))).cell? ⟨w.heap.size, 0, none⟩ = some (.pointer (some ⟨p, 0, none⟩)) := by
    refine cell_at (p := w.heap.size) (t := 60) (cs := #[.pointer (some ⟨p, 0, none⟩)]) ?_ rfl
    rw [Below.heap_alloc _ _ _ (by simp)]
    exact heap_alloc_new w _
  have hF := Aside0.mk B2
  rw [hn] at a3'
  clear h B2
  go_enter Tryd.func27, Tryd.ntmps27
  go_wp2_with fail
  rw [← hw2] at a3' c1 ⊢
  clear hw2
  have hI0 := Aside0.mk (And.intro a3' c1)
  clear a3' c1
  go_loopg [2, 3, 4] 0 (fun q v2 v3 v4 wi => v2 = .slice none 0 0 ∧ v3 = .slice none 0 0 ∧ v4 = .pointer (some ⟨w.heap.size + 1, 0, none⟩) ∧ Aside0 (wi = w2))
  case atStart => exact ⟨rfl, rfl, rfl, ⟨rfl⟩⟩
  case round =>
    obtain ⟨rfl, rfl, rfl, hw⟩ := hrel
    have c1 := hI0.out.2
    have c3 := hI0.out.1
    rw [← hw.out] at c1 c3 hF
    clear hI0 hw
    go_wp2
    go_ret2
    exact ⟨rfl, hF.out⟩
set_option maxRecDepth 100000 in
set_option maxHeartbeats 4000000 in
theorem run_main {w : World} {p : Nat} {W R : Int} {AL : Option Addr} {cL : Nat} {Lat : List Int} {AI : Option Addr} {cI : Nat} {B : List S48} {AD : Option Addr} {cD : Nat} {AH : Option Addr} {cH : Nat} {T : List Int} {gc cY : Nat}
    (hf : ∀ (wi : World) (t : Nat → Int), Kp (fun k => k = gc) w wi → Kd.R (Kd.int .i64) 3 wi 0 (fun k => k = gc) (.slice (some ⟨gc, 0, none⟩) B.length cY) (tbn B.length t) → Sf wi p W R AL cL Lat AI cI B AD cD AH cH T (some ⟨gc, 0, none⟩) cY (tbn B.length t))
    (hY : Kd.R (Kd.int .i64) 3 w 0 (fun k => k = gc) (.slice (some ⟨gc, 0, none⟩) B.length cY) (tbn B.length st0.t)) (hB : sml B) (hS : Ok (insS W Lat B)) (hW : 0 ≤ W ∧ W ≤ 8) (hT : Hp (insS W Lat B) T 0) (hN : DN w) (hgc : 0 < gc ∧ gc < w.heap.size) :
    Calls Tryd.prog 27 #[.pointer (some ⟨p, 0, none⟩)] w fun e w' => ∃ vo vy s, e = .returned (.tuple #[vo, vy]) ∧ Fin (insS W Lat B) T s ∧ Kd.R (Kd.int .i64) 3 w' 0 (fun k => w.heap.size ≤ k) vo (oL s) ∧ Kd.R (Kd.int .i64) 3 w' 0 (fun k => w.heap.size ≤ k) vy s.y ∧ Kp (fun k => k = gc) w w' := by
  have hl := hB.len
  obtain ⟨f, hf1, hall⟩ := run_all hS (fun i => rd T (i : Int))
  have hnn : (insS W Lat B).n = B.length := rfl
  rw [hnn] at hall hf1
  obtain ⟨bs, hbs⟩ : ∃ bs, bs = w.heap.size := ⟨_, rfl⟩
  obtain ⟨w1, hw1⟩ : ∃ w1, w1 = w.alloc (.cells #[.pointer (some ⟨p, 0, none⟩)] 60 (0, 0)) := ⟨_, rfl⟩
  obtain ⟨w2, hw2⟩ : ∃ w2, w2 = w1.alloc (.cells #[.int .i64 0] 3 (0, 0)) := ⟨_, rfl⟩
  have hs1 : w1.heap.size = w.heap.size + 1 := by rw [hw1]; simp
  have hs2 : w2.heap.size = w.heap.size + 2 := by rw [hw2]; simp [hs1]
  have B2 : Below w.heap.size w w2 := by rw [hw2, hw1]; exact below_alloc (below_alloc (Below.refl _ w) _) _
  have z1 : w2.heap[bs]? = some (.cells #[.pointer (some ⟨p, 0, none⟩)] 60 (0, 0)) := by
    rw [hw2, hbs, Below.heap_alloc _ _ _ (by omega), hw1]
    exact heap_alloc_new w _
  have z2 : w2.heap[bs + 1]? = some (.cells #[.int .i64 0] 3 (0, 0)) := by
    rw [hw2]
    have := heap_alloc_new w1 (.cells #[.int .i64 0] 3 (0, 0))
    rw [hs1, ← hbs] at this
    exact this
  have hR0 : Rn w w2 gc cY B.length (fun k => k = bs ∨ k = bs + 1) st0 (.slice none 0 0) (.slice none 0 0) :=
    ⟨Kp.of_below B2 _, Kd.R_step hY (fun k hk hlt => B2.block k hlt), fun _ => False, fun _ => False, fun k h => h.elim, fun k h => h.elim, fun k h => h.elim, Kd.R_nil _ _ _ _ _, Kd.R_nil _ _ _ _ _⟩
  have hX := Aside0.mk (And.intro hf (And.intro hB (And.intro hS (And.intro hW (And.intro hT (And.intro hN (And.intro hgc hbs)))))))
  have hI0 := Aside0.mk (show OI w w2 p gc cY bs (bs + 1) (insS W Lat B) (fun i => rd T (i : Int)) (run (insS W Lat B) (fun i => rd T (i : Int)) f 0 st0) f st0 0 (.slice none 0 0) (.slice none 0 0) from ⟨hR0, z1, z2, inv0 _ 0 (by omega), ⟨by omega, by omega⟩, rfl, ⟨by omega, by omega⟩⟩)
  have hfin := Aside0.mk (show Fin (insS W Lat B) T (run (insS W Lat B) (fun i => rd T (i : Int)) f 0 st0) from ⟨hT, ⟨f, hf1, rfl⟩, hall⟩)
  obtain ⟨fs, hfs⟩ : ∃ x, run (insS W Lat B) (fun i => rd T (i : Int)) f 0 st0 = x := ⟨_, rfl⟩
  rw [hfs] at hI0 hfin
  clear hf hB hS hW hT hN hgc hY hR0 z1 z2 B2 hfs hf1 hall
  go_enter Tryd.func27, Tryd.ntmps27
  go_wp2_with fail
  rw [← hbs, ← hw1, ← hw2]
  replace hbs := Aside0.mk hbs
  clear hw1 hw2 hs1 hs2
  go_loopg [2, 3, 4] f (fun q v2 v3 v4 wi => ∃ (bc : Nat) (s : St) (c : Int), v4 = .pointer (some ⟨bc, 0, none⟩) ∧ Aside0 (OI w wi p gc cY bs bc (insS W Lat B) (fun i => rd T (i : Int)) fs q s c v2 v3))
  case atStart => exact ⟨bs + 1, st0, 0, rfl, hI0⟩
  case round =>
    obtain ⟨bc, s, c, rfl, hJ⟩ := hrel
    clear hI0
    obtain ⟨P, O, hP, hO, hPO, r1, r2⟩ := hJ.out.rn.ex
    obtain ⟨Ao, co, ev, hx1, C1⟩ := Kd.R_reads r1
    subst ev
    obtain ⟨Ay, cy, ev, hx2, C2⟩ := Kd.R_reads r2
    subst ev
    have hsf := hX.out.1 wr s.t hJ.out.rn.K hJ.out.rn.Y
    have a3 := hsf.c3
    have a0 := hsf.c0.1
    have c1 := cell_at hJ.out.z1 (j := 0) rfl
    have hol : (oL s).length = s.o.length := oL_len s
    clear hP hO hPO r1 r2 C1 C2 hx1 hx2 hsf
    by_cases hlt : s.o.length < B.length
    · have hlti : ((oL s).length : Int) < (B.length : Int) := by omega
      obtain ⟨gk1, rfl⟩ : ∃ q, gk = q + 1 := by
        cases gk with
        | zero => exact absurd (show s.o.length = B.length from by have h1 := hJ.out.end_; rw [run] at h1; rw [h1]; exact hfin.out.all) (by omega)
        | succ q => exact ⟨q, rfl⟩
      have hgk : gk1 < gk1 + 1 := by omega
      obtain ⟨nO, hnO⟩ : ∃ m, (oL s).length = m := ⟨_, rfl⟩
      obtain ⟨nY, hnY⟩ : ∃ m, s.y.length = m := ⟨_, rfl⟩
      have hJ0 : Aside0 (II w wr p gc cY bs bc (insS W Lat B) (fun i => rd T (i : Int)) s (insS W Lat B).w s c (.slice Ao nO co) (.slice Ay nY cy)) := ⟨by rw [← hnO, ← hnY]; exact ⟨hJ.out.rn, hJ.out.z1, hJ.out.z2, hJ.out.inv, rfl⟩⟩
      rw [hnO] at hlti ⊢
      rw [hnY]
      clear hol
      have hsl := Aside0.mk (And.intro hlt (And.intro hnO hnY))
      clear hnO hnY hlt
      have hWW := Aside0.mk hX.out.2.2.2.1
      go_wp2_with fail
      clear a3 a0 c1
      go_loopg [2, 3, 21] W.toNat (fun m v2 v3 v21 wi => ∃ (j : Nat) (s2 : St), j + m = W.toNat ∧ v21 = .int .i64 (j : Int) ∧ Aside0 (II w wi p gc cY bs bc (insS W Lat B) (fun i => rd T (i : Int)) s m s2 c v2 v3))
      case atStart => exact ⟨0, s, by omega, rfl, hJ0⟩
      case round =>
        obtain ⟨j, s2, hj, rfl, hK⟩ := hrel
        clear hJ0
        have hW1 := hWW.out
        by_cases hjw : j < W.toNat
        · have hjwi : (j : Int) < W := by omega
          obtain ⟨gk2, rfl⟩ : ∃ q, gk = q + 1 := ⟨gk - 1, by omega⟩
          have hj1 : j + 1 + gk2 = W.toNat := by omega
          have hgk2 : gk2 < gk2 + 1 := by omega
          have hsf := hX.out.1 wr s2.t hK.out.rn.K hK.out.rn.Y
          have c1 := cell_at hK.out.z1 (j := 0) rfl
          have hDN : DN wr := hK.out.rn.dn hX.out.2.2.2.2.2.1 hX.out.2.2.2.2.2.2.1.1
          have hcb := hJ.out.cb
          have hbest := Aside0.mk (best_any hsf hX.out.2.1 hX.out.2.2.1 (fun k hk => by
            have h1 := hK.out.inv.hi k hk
            have h2 := hK.out.inv.neg k
            omega) (by omega) hX.out.2.2.2.2.1 hDN c1 (cell_at hK.out.z2 (j := 0) rfl))
          clear hsf hDN hW1
          obtain ⟨pb, hpb⟩ : ∃ x, pick (rdy (insS W Lat B) s2.t c) (fun i => rd T (i : Int)) B.length = x := ⟨_, rfl⟩
          rw [hpb] at hbest
          go_wp2_with fail
          refine hbest.out.mono ?_
          rintro e' w3 ⟨rfl, B3⟩
          have hgr := Nat.lt_of_lt_of_le hX.out.2.2.2.2.2.2.1.2 hK.out.rn.K.size
          have hK3 := Aside0.mk (hK.out.step B3 hgr)
          have hg3 : gc < w3.heap.size := Nat.lt_of_lt_of_le hgr B3.size
          obtain ⟨ou, hou⟩ : ∃ x, ouV T pb = x := ⟨_, rfl⟩
          rw [hou]
          obtain ⟨w4, hw4⟩ : ∃ w4, w4 = w3.alloc (.cells #[.int .i64 ou.1, .int .i64 ou.2] 79 (0, 0)) := ⟨_, rfl⟩
          obtain ⟨g5, hg5⟩ : ∃ g5, g5 = w3.heap.size := ⟨_, rfl⟩
          have B4 : Below w3.heap.size w3 w4 := by rw [hw4]; exact below_alloc (Below.refl _ w3) _
          have hK4 := Aside0.mk (hK3.out.step B4 hg3)
          have z5 : w4.heap[g5]? = some (.cells #[.int .i64 ou.1, .int .i64 ou.2] 79 (0, 0)) := by rw [hw4, hg5]; exact heap_alloc_new w3 _
          have hDN := hK4.out.rn.dn hX.out.2.2.2.2.2.1 hX.out.2.2.2.2.2.2.1.1
          have n1 := hDN.1
          have n2 := hDN.2
          have hg4 := Aside0.mk (show gc < w4.heap.size ∧ gc ≠ g5 from ⟨Nat.lt_of_lt_of_le hg3 B4.size, by omega⟩)
          rw [hw4] at n1 n2
          have z5' := Aside0.mk z5
          clear hK hK3 B3 hbest c1 hgr hDN B4 z5 hg3
          cases pb with
          | none =>
            obtain rfl : (-1, -1) = ou := hou
            have hKe : Aside0 (II w w4 p gc cY bs bc (insS W Lat B) (fun i => rd T (i : Int)) s 0 s2 c u2 u3) := ⟨hK4.out.rn, hK4.out.z1, hK4.out.z2, hK4.out.inv, by have h9 := hK4.out.end_; rw [issue] at h9; rw [show pick (rdy (insS W Lat B) s2.t c) (fun i => rd T (i : Int)) (insS W Lat B).n = none from hpb] at h9; rw [issue]; exact h9⟩
            clear hK4 hpb z5'
            go_upto_region 11 with (fail)
            clear n1 n2
            rw [← hw4]
            clear hw4 hg4 hg5
            have c2 := cell_at hKe.out.z2 (j := 0) rfl
            have hszx := hKe.out.rn.K.size
            have hc1 : IntKind.i64.wrap (c + 1) = c + 1 := (IntKind.wrap_i64 _).trans (by have := hJ.out.cb; omega)
            have hO1 := Aside0.mk (OI.next hJ.out hsl.out.1 hKe.out (Nat.lt_of_lt_of_le hX.out.2.2.2.2.2.2.1.2 hszx) hszx (blk_lt' hKe.out.z1))
            clear hKe hszx
            go_wp2_with fail
            go_roundg gk1
            case rel => exact ⟨_, _, c + 1, rfl, hO1⟩
            case measure => exact hgk
          | some k =>
            have hkm := pick_mem hpb
            obtain rfl : (rd T (k : Int), (k : Int)) = ou := hou
            have hTk := hX.out.2.2.2.2.1.bd hX.out.2.2.1 (B.length - k) k (by show k + (B.length - k) = B.length; omega) (Nat.zero_le _) hkm.1
            obtain ⟨hk9, hhk⟩ : ∃ x, rd T (k : Int) = x := ⟨_, rfl⟩
            have d1 : (hk9 == -1) = false := by rw [beq_eq_false_iff_ne]; omega
            rw [hhk] at hw4 n1 n2 z5' ⊢
            have hkl : k < B.length := hkm.1
            have hkl1 : (k : Int) < (B.length : Int) := by omega
            have hkl0 : (0 : Int) ≤ (k : Int) := by omega
            go_upto_region 8 with (fail)
            rw [← hw4]
            rw [← hg5]
            have hsf := hX.out.1 w4 s2.t hK4.out.rn.K hK4.out.rn.Y
            have c1 := cell_at hK4.out.z1 (j := 0) rfl
            have c2 := cell_at hK4.out.z2 (j := 0) rfl
            have c6 := hsf.c6
            have e2 := cell_at z5'.out (j := 1) rfl
            obtain ⟨v0, v1⟩ := Kd.R_celln 0 hK4.out.rn.Y (k : Int) hkl0 hkl1
            rw [Int.toNat_natCast] at v0 v1
            clear n1 n2 hw4 hTk hhk hsf hg5 d1
            refine still_tail 8 (by kernel_rfl) (by kernel_rfl) ?_
            simp only [List.take_succ_cons, List.take_zero, List.drop_succ_cons, List.drop_zero]
            repeat still_step
            refine wpStill_nil ?_
            go_upto_region 9 with (fail)
            have hrs := hK4.out.rn.store hX.out.2.2.2.2.2.2.1.2 k c
            have hbb := hJ.out.bb
            obtain ⟨w5, hw5⟩ : ∃ w5, w5 = (w4.setCell ⟨gc, k, none⟩ (.int .i64 c)).drew := ⟨_, rfl⟩
            have c2' : w5.cell? ⟨bc, 0, none⟩ = some (.int .i64 c) := by
              rw [hw5]
              refine cell_at (p := bc) (t := 3) (cs := #[.int .i64 c]) ?_ rfl
              exact (Below.heap_setCell w4 ⟨gc, k, none⟩ _ bc (fun e => by have e : bc = gc := e; have := hX.out.2.2.2.2.2.2.1.2; omega)).trans hK4.out.z2
            have e2' : w5.cell? ⟨g5, 1, none⟩ = some (.int .i64 (k : Int)) := by
              rw [hw5]
              refine cell_at (p := g5) (t := 79) (cs := #[.int .i64 hk9, .int .i64 (k : Int)]) ?_ rfl
              exact (Below.heap_setCell w4 ⟨gc, k, none⟩ _ g5 (fun e => by have e : g5 = gc := e; have := hg4.out.2; omega)).trans z5'.out
            have z1' : w5.heap[bs]? = some (.cells #[.pointer (some ⟨p, 0, none⟩)] 60 (0, 0)) := by
              rw [hw5]
              exact (Below.heap_setCell w4 ⟨gc, k, none⟩ _ bs (fun e => by have e : bs = gc := e; have := hX.out.2.2.2.2.2.2.1.2; have := hbs.out; omega)).trans hK4.out.z1
            have z2' : w5.heap[bc]? = some (.cells #[.int .i64 c] 3 (0, 0)) := by
              rw [hw5]
              exact (Below.heap_setCell w4 ⟨gc, k, none⟩ _ bc (fun e => by have e : bc = gc := e; have := hX.out.2.2.2.2.2.2.1.2; omega)).trans hK4.out.z2
            have hsz5 : w5.heap.size = w4.heap.size := by rw [hw5]; simp
            have hrs2 : Kp (fun k => k = gc) w w5 ∧ Kd.R (Kd.int .i64) 3 w5 0 (fun k => k = gc) (.slice (some ⟨gc, 0, none⟩) (insS W Lat B).n cY) (tbn (insS W Lat B).n (s2.put k c).t) ∧
                ∃ P O : Nat → Prop, (∀ k, P k → w.heap.size ≤ k ∧ k < w5.heap.size ∧ ¬ (k = bs ∨ k = bc)) ∧ (∀ k, O k → w.heap.size ≤ k ∧ k < w5.heap.size ∧ ¬ (k = bs ∨ k = bc)) ∧ (∀ k, P k → ¬ O k) ∧ Kd.R (Kd.int .i64) 3 w5 0 P u2 (oL s2) ∧ Kd.R (Kd.int .i64) 3 w5 0 O u3 s2.y := by
              obtain ⟨q1, q2, P, O, q3, q4, q5, q6, q7⟩ := hrs
              rw [hsz5, hw5]
              exact ⟨q1.drew, Kd.R_drew q2, P, O, q3, q4, q5, Kd.R_drew q6, Kd.R_drew q7⟩
            rw [← hw5]
            obtain ⟨q1, q2, P, O, q3, q4, q5, q6, q7⟩ := hrs2
            have hG := Aside0.mk (And.intro q1 (And.intro q2 (And.intro q3 (And.intro q4 (And.intro q5 (And.intro q6 (And.intro q7 (And.intro z1' z2'))))))))
            have hI9 := hK4.out.inv.put (by have := hJ.out.cb; omega) hkm.1 hkm.2
            have hE9 : issue (insS W Lat B) (fun i => rd T (i : Int)) c gk2 (s2.put k c) = issue (insS W Lat B) (fun i => rd T (i : Int)) c (insS W Lat B).w s := by
              have h9 := hK4.out.end_
              rw [issue, show pick (rdy (insS W Lat B) s2.t c) (fun i => rd T (i : Int)) (insS W Lat B).n = some k from hpb] at h9
              exact h9
            have hol : (oL s2).length ≤ 60 ∧ s2.y.length ≤ 60 := by
              have h1 := hK4.out.inv.le
              have h2 := hK4.out.inv.yl
              have h3 : s2.o.length ≤ B.length := h1
              rw [oL_len]; omega
            have hM := Aside0.mk (And.intro hI9 (And.intro hE9 (And.intro hol hsz5)))
            clear hrs c1 c2 c6 e2 v0 v1 q1 q2 q3 q4 q5 q6 q7 z1' z2' hw5 hI9 hE9 hol hsz5 hbb hK4 hpb hkm z5' hkl hkl1 hkl0
            have c2a : (w5.alloc (.cells #[.int .i64 (k : Int)] 3 (0, 0))).cell? ⟨bc, 0, none⟩ = some (.int .i64 c) := (cell_blk (Below.heap_alloc _ _ _ (World.block_lt_of_cell? _ _ c2'))).trans c2'
            have e2a : (w5.alloc (.cells #[.int .i64 c] 3 (0, 0))).cell? ⟨g5, 1, none⟩ = some (.int .i64 (k : Int)) := (cell_blk (Below.heap_alloc _ _ _ (World.block_lt_of_cell? _ _ e2'))).trans e2'
            have hq6 : Kd.R (Kd.int .i64) 3 w5 0 (fun q => P q ∨ w5.heap.size ≤ q) u2 (oL s2) := Kd.R_mono hG.out.2.2.2.2.2.1 (fun q hq => .inl hq)
            go_region_law (first
              | ((refine Kd.R_append_rows_step (Kd.int .i64) (Rr := fun x c => c = [Value.int .i64 x]) (w0 := w5) 0 (by rfl) (.tmp 37) (.tmp 40) 22 3 (.int .i64 0) 8 (by rfl) Tryd.underlying22 info3 rfl (by decide) (by decide) u2 (oL s2) [(k : Int)] _ 1 1 (fun q => P q ∨ w5.heap.size ≤ q) (fun _ => False) (by rfl) (by rfl) ?_ ?_ ?_ ?_ ?_ ?_ (Nat.zero_le _) ?_ ?_)
                 · (with_reducible repeat (first | apply Kd.R_alloc | apply Kd.R_drewN | apply Kd.R_drew)); exact hq6
                 · refine rr_lit _ _ _ ?_; first | exact new0 w5 _ | exact new1 w5 _ _ | exact new2 w5 _ _
                 · intro x cs h; subst h; rfl
                 · intro q hq; exact hq.elim
                 · intro q hq; exact .inr (by simp at hq; omega)
                 · exact (Kp.of_below (W := _) (by first | exact below_drew (Below.refl _ _) | exact below_alloc (below_drew (Below.refl _ _)) _ | exact below_alloc (below_alloc (below_drew (Below.refl _ _)) _) _ | exact below_drew (below_alloc (Below.refl _ _) _) | exact below_drew (below_alloc (below_alloc (Below.refl _ _) _) _)) (fun _ => False)).belowB (fun _ h => h.elim) (Nat.zero_le _)
                 · have := hM.out.2.2.1.1; omega
                 intro v1 wa hRA hBA hgA hatA
                 have hub : ∀ q, u2.ownBlock = some q → P q := hG.out.2.2.2.2.2.1.1
                 have hnew : ∀ q, w5.heap.size ≤ q → some q ≠ u2.ownBlock := fun q hq e => by have := (hG.out.2.2.1 q (hub q e.symm)).2.1; omega
                 have hBA1 := Aside0.mk (bel_of (w5 := w5) hgA (by first | exact below_drew (Below.refl _ _) | exact below_alloc (below_drew (Below.refl _ _)) _ | exact below_alloc (below_alloc (below_drew (Below.refl _ _)) _) _ | exact below_drew (below_alloc (Below.refl _ _) _) | exact below_drew (below_alloc (below_alloc (Below.refl _ _) _) _)))
                 have cA : wa.cell? ⟨bc, 0, none⟩ = some (.int .i64 c) := (cell_blk (hgA.block bc (Nat.lt_of_lt_of_le (blk_lt' hG.out.2.2.2.2.2.2.2.2) hBA1.out.size) (fun e => (hG.out.2.2.1 bc (hub bc e.symm)).2.2 (.inr rfl)))).trans ((hBA1.out.cell (p := ⟨bc, 0, none⟩) (blk_lt' hG.out.2.2.2.2.2.2.2.2)).trans (cell_at hG.out.2.2.2.2.2.2.2.2 rfl))
                 first
                   | have lB : wa.cell? ⟨w5.heap.size + 1, 0, none⟩ = some (.int .i64 c) := (cell_blk (hgA.block (w5.heap.size + 1) (by simp) (hnew _ (by omega)))).trans (new2 w5 (.int .i64 c) _)
                   | have lB : wa.cell? ⟨w5.heap.size, 0, none⟩ = some (.int .i64 c) := (cell_blk (hgA.block w5.heap.size (by simp; omega) (hnew _ (by omega)))).trans (new1 w5 (.int .i64 c) _)
                   | skip
                 have hY1 : Kd.R (Kd.int .i64) 3 wa 0 (fun q => O q ∨ w5.heap.size ≤ q) u3 s2.y := Kd.R_mono (Kd.R_step (Kd.R_step hG.out.2.2.2.2.2.2.1 (fun q hq hlt => hBA1.out.block q hlt)) (fun q hq hlt => hgA.block q hlt (fun e => hG.out.2.2.2.2.1 q (hub q e.symm) hq))) (fun q hq => .inl hq))
              | ((refine Kd.R_append_rows_step (Kd.int .i64) (Rr := fun x c => c = [Value.int .i64 x]) (w0 := w5) 0 (by rfl) (.tmp 42) (.tmp 44) 22 3 (.int .i64 0) 8 (by rfl) Tryd.underlying22 info3 rfl (by decide) (by decide) u3 s2.y [c] _ 1 1 (fun q => O q ∨ w5.heap.size ≤ q) (fun _ => False) (by rfl) (by rfl) ?_ ?_ ?_ ?_ ?_ ?_ (Nat.zero_le _) ?_ ?_)
                 · (with_reducible repeat (first | apply Kd.R_alloc | apply Kd.R_drewN | apply Kd.R_drew)); exact hY1
                 · refine rr_lit _ _ _ ?_; first | exact new0 wa _ | exact lB
                 · intro x cs h; subst h; rfl
                 · intro q hq; exact hq.elim
                 · intro q hq; have h1 := hBA1.out.size; have h2 := hgA.size; exact .inr (by first | (simp at hq; omega) | omega)
                 · first | exact hBA | exact hBA.trans ((below_alloc (Below.refl _ wa) _).mono (Nat.zero_le _))
                 · have := hM.out.2.2.1.2; omega
                 intro v2 wb hRB hBB hgB hatB))
            all_goals
              have hap := Rn.app (n := (insS W Lat B).n) (cY := cY) (Z := fun q => q = bs ∨ q = bc) hX.out.2.2.2.2.2.2.1.2 hG.out.1 hG.out.2.1 hG.out.2.2.1 hG.out.2.2.2.1 hG.out.2.2.2.2.1 hG.out.2.2.2.2.2.1 hG.out.2.2.2.2.2.2.1 (fun q hq => by
                rcases hq with rfl | rfl
                · exact blk_lt' hG.out.2.2.2.2.2.2.2.1
                · exact blk_lt' hG.out.2.2.2.2.2.2.2.2) hBA1.out hgA hRA hatA (bel_of hgB (by first | exact Below.refl _ _ | exact below_alloc (Below.refl _ _) _ | exact below_drew (Below.refl _ _) | exact below_drew (below_alloc (Below.refl _ _) _))) hgB hRB hatB
              have hI1 : Aside0 (II w wb p gc cY bs bc (insS W Lat B) (fun i => rd T (i : Int)) s gk2 (s2.put k c) c v1 v2) := ⟨hap.1, (hap.2 bs (.inl rfl)).trans hG.out.2.2.2.2.2.2.2.1, (hap.2 bc (.inr rfl)).trans hG.out.2.2.2.2.2.2.2.2, hM.out.1, hM.out.2.1⟩
              clear hap hBA1 hgA hRA hatA hgB hRB hatB hBA hBB hY1 hnew hub cA c2a e2a hq6 c2' e2'
              try clear lB
              have hj8 : j < 8 := by have := hWW.out; omega
              go_wp2_with fail
              go_roundg gk2
              case rel => exact ⟨j + 1, s2.put k c, hj1, by go_num, hI1⟩
              case measure => exact hgk2
        · have hKe : Aside0 (II w wr p gc cY bs bc (insS W Lat B) (fun i => rd T (i : Int)) s 0 s2 c u2 u3) := by
            obtain rfl : gk = 0 := by omega
            exact hK
          have hjw2 : ¬ (j : Int) < W := by omega
          clear hK hjw hW1
          have c2 := cell_at hKe.out.z2 (j := 0) rfl
          have hszx := hKe.out.rn.K.size
          have hc1 : IntKind.i64.wrap (c + 1) = c + 1 := (IntKind.wrap_i64 _).trans (by have := hJ.out.cb; omega)
          have hO1 := Aside0.mk (OI.next hJ.out hsl.out.1 hKe.out (Nat.lt_of_lt_of_le hX.out.2.2.2.2.2.2.1.2 hszx) hszx (blk_lt' hKe.out.z1))
          clear hKe hszx
          go_wp2_with fail
          go_roundg gk1
          case rel => exact ⟨_, _, c + 1, rfl, hO1⟩
          case measure => exact hgk
    · have hdone : s = fs := by
        have h1 := hJ.out.end_
        cases gk with
        | zero => rw [run] at h1; exact h1
        | succ q => rw [run, if_neg (show ¬ s.o.length < (insS W Lat B).n from hlt)] at h1; exact h1
      have hle := hJ.out.inv.le
      obtain rfl := hdone
      have hle2 : s.o.length ≤ B.length := hle
      have hge : ¬ ((oL s).length : Int) < (B.length : Int) := by omega
      have hF := Aside0.mk hJ.out.rn
      obtain ⟨nO, hnO⟩ : ∃ m, (oL s).length = m := ⟨_, rfl⟩
      obtain ⟨nY, hnY⟩ : ∃ m, s.y.length = m := ⟨_, rfl⟩
      rw [hnO, hnY] at hF
      rw [hnO] at hge ⊢
      rw [hnY]
      clear hJ hX hlt hle hle2 hol hnO hnY
      go_wp2
      go_ret2
      obtain ⟨P, O, hP, hO, hPO, r1, r2⟩ := hF.out.ex
      exact ⟨_, _, rfl, s, hfin.out, Kd.R_mono r1 (fun k hk => (hP k hk).1), Kd.R_mono r2 (fun k hk => (hO k hk).1), hF.out.K⟩
end Go.Proofs.YtjacphcbiaacnaaDoor
end

section
/- A drawn region whose first n operations go in whatever order while S holds, and whose rest (a store into a cell that the region loads) goes behind them all, in the text's order. -/
set_option linter.unusedVariables false
namespace Go.Proofs.YtjacphcbiaacnaaDoor.Held
open Go

section
variable {P : Program} {ops : Array Oper} {Q : Exit → Act → World → Prop} {S : World → Prop} {n : Nat}

/-- The first n operations come before the rest, and the rest goes in the text's order. -/
abbrev Fit (ops : Array Oper) (n : Nat) : Prop := (Region.noSelect ops && decide (n < ops.size) && Region.sinkB .any ops n && Region.chainB .any ops n) = true
theorem Fit.out (h : Fit ops n) : Region.noSelect ops = true ∧ n < ops.size ∧ Region.sinkB .any ops n = true ∧ Region.chainB .any ops n = true := by
 unfold Fit at h
 simp only [Bool.and_eq_true, decide_eq_true_eq] at h
 exact ⟨h.1.1.1, h.1.1.2, h.1.2, h.2⟩

/-- Whatever order is picked from here on among the first n; S holds behind each of them; then the rest. -/
def wpT (P : Program) (ops : Array Oper) (Q : Exit → Act → World → Prop) (S : World → Prop) (n : Nat) : Nat → Array Bool → Act → World → Prop
 | 0, listed, a, w => Region.seqB .any ops (ops.size - n) n listed = true ∧ wpList P ops Q (ops.toList.drop n) a w
 | f + 1, listed, a, w => (∃ i, i < n ∧ listed.getD i true = false) ∧ Region.ready .any ops listed ≠ [] ∧
  ∀ i ∈ Region.ready .any ops listed, wpOp P ops Q i (fun a' w' => S w' ∧ wpT P ops Q S n f (listed.setIfInBounds i true) a' w') a w

theorem heads {listed : Array Bool} (hF : Fit ops n) (inv : HeadInv .any ops n listed) (h : ∃ i, i < n ∧ listed.getD i true = false) {j : Nat} (hj : j ∈ Region.ready .any ops listed) : j < n := by
 obtain ⟨_, hn, hs, hc⟩ := hF.out
 obtain ⟨i, hi, hun⟩ := h
 rcases Nat.lt_or_ge j n with h | h
 ·exact h
 ·exact absurd hj (tail_waits hs hc hn inv _ i rfl hi hun j h)

theorem sound (hF : Fit ops n) : ∀ (f : Nat) (listed : Array Bool) (a : Act) (w : World), HeadInv .any ops n listed → wpT P ops Q S n f listed a w → wpAny P .any ops Q (f + (ops.size - n)) listed a w
 | 0, listed, a, w, inv, h => by
  have hl : (ops.toList.drop n).length = ops.size - n := by simp
  rw [Nat.zero_add, ← hl]
  exact wpAny_of_seq _ n listed a w (fun j => by simp) (by rw [hl]; exact h.1) h.2
 | f + 1, listed, a, w, inv, h => by
  rw [show f + 1 + (ops.size - n) = (f + (ops.size - n)) + 1 by omega]
  refine ⟨fun h0 => absurd h0 h.2.1, fun i hi => ?_⟩
  have hin := heads hF inv h.1 hi
  exact wpOp_mono (fun a' w' h' => sound hF f _ a' w' (inv.set hi hin) h'.2) (h.2.2 i hi)

theorem first_ (hF : Fit ops n) {i : Nat} {oi : Oper} {v : Value} (hi : ops[i]? = some oi)
  (hQ : ∀ c a w, Q (.panic c) (a.put oi.dst v) w → Q (.panic c) a w) (hin : i < n) :
  ∀ (f : Nat) (listed : Array Bool) (a : Act) (w : World), HeadInv .any ops n listed →
   (∀ j oj, ops[j]? = some oj → j ≠ i → listed.getD j true = false → (∀ e ∈ oj.after, Region.binds .any e = true → e.on ≠ i) → oi.apart ops oj = true) →
   i ∈ Region.ready .any ops listed → YieldsIf P ops S oi v a → S w →
   wpT P ops Q S n f (listed.setIfInBounds i true) (a.put oi.dst v) w → wpT P ops Q S n (f + 1) listed a w := by
 have hsel := Region.noSelect_spec hF.out.1
 intro f
 induction f with
 | zero =>
  intro listed a w inv _ hr hy hS H
  have hun := (mem_ready.1 hr).1
  refine ⟨⟨i, hin, hun⟩, fun h => (by rw [h] at hr; cases hr), fun j hj => ?_⟩
  by_cases hji : j = i
  ·subst hji; exact hy.wpOp hi hS ⟨hS, H⟩
  ·have h1 := seqB_ready H.1 j (ready_mono hj hji)
   have h2 := heads hF inv ⟨i, hin, hun⟩ hj
   omega
 | succ f ih =>
  intro listed a w inv hfree hr hy hS H
  have hun := (mem_ready.1 hr).1
  refine ⟨⟨i, hin, hun⟩, fun h => (by rw [h] at hr; cases hr), fun j hj => ?_⟩
  by_cases hji : j = i
  ·subst hji; exact hy.wpOp hi hS ⟨hS, H⟩
  ·have hjn := heads hF inv ⟨i, hin, hun⟩ hj
   have h1 := H.2.2 j (ready_mono hj hji)
   obtain ⟨hjun, oj, hoj, hall⟩ := mem_ready.1 hj
   have hnot : ∀ e ∈ oj.after, Region.binds .any e = true → e.on ≠ i := fun e he hb heq => by
    have h1 := hall e he hb
    rw [heq, getD_both hun] at h1
    cases h1
   have h2 := wpOp_putIf hoj (hfree j oj hoj hji hjun hnot) (fun cs b => hsel i oi cs b hi) (fun cs b => hsel j oj cs b hoj) hQ hy h1
   have hfree' : ∀ k ok, ops[k]? = some ok → k ≠ i → (listed.setIfInBounds j true).getD k true = false →
     (∀ e ∈ ok.after, Region.binds .any e = true → e.on ≠ i) → oi.apart ops ok = true := fun k ok hk hki hun2 hno => by
    refine hfree k ok hk hki ?_ hno
    by_cases hjk : j = k
    ·subst hjk; exact hjun
    ·rw [getD_set_ne true hjk] at hun2; exact hun2
   refine wpOp_mono (fun a' w' h3 => ⟨h3.2.1, ih (listed.setIfInBounds j true) a' w' (inv.set hj hjn) hfree' (ready_mono hr (Ne.symm hji)) h3.1 h3.2.1 ?_⟩) h2
   rw [Array.setIfInBounds_comm _ _ hji]
   exact h3.2.2

/-- The goal of the walk by hand. -/
def Go_ (P : Program) (ops : Array Oper) (Q : Exit → Act → World → Prop) (S : World → Prop) (n f : Nat) (listed : Array Bool) (a : Act) (w : World) : Prop :=
 Fit ops n → HeadInv .any ops n listed → wpT P ops Q S n f listed a w

/-- **The beginning.** -/
theorem begin_ {id : Nat} {a : Act} {w : World} {l : List Oper} (n : Nat) (hm : P.follows .mixedOrders = true) (hF : (Region.noSelect l.toArray && decide (n < l.toArray.size) && Region.sinkB .any l.toArray n && Region.chainB .any l.toArray n) = true) (hS : S w.drew)
  (h : S w.drew → Go_ P l.toArray Q S n n (Array.replicate l.length false) a w.drew) : (Code.region id l.toArray true).wp P Q a w := by
 obtain ⟨_, hn', _, _⟩ := Fit.out hF
 have inv0 : HeadInv .any l.toArray n (Array.replicate l.toArray.size false) :=
  ⟨by simp, fun j oj _ hl => (by rw [getD_replicate_false] at hl; cases hl), fun t _ ht => getD_in (by simpa using ht) (getD_replicate_false _ _)⟩
 refine wp_region_any hm ?_
 have := sound (P := P) (Q := Q) (S := S) hF n _ a w.drew inv0 (by have := h hS hF (by simpa using inv0); simpa using this)
 rwa [show n + (l.toArray.size - n) = l.toArray.size by omega] at this

/-- Operation i of the first n yields v wherever S holds: it is taken first. -/
theorem take_ {l : List Oper} (i : Nat) {oi : Oper} {v : Value} {f : Nat} {listed : Array Bool} {a : Act} {w : World} (hi0 : l[i]? = some oi) (hin : decide (i < n) = true)
  (hf : Region.free .any l.toArray listed i = true) (hr : (Region.ready .any l.toArray listed).contains i = true)
  (hQ : ∀ c a w, Q (.panic c) (a.put oi.dst v) w → Q (.panic c) a w) (hS : S w) (hy : YieldsIf P l.toArray S oi v a)
  (h : Go_ P l.toArray Q S n f (listed.setIfInBounds i true) (a.put oi.dst v) w) : Go_ P l.toArray Q S n (f + 1) listed a w := fun hF inv => by
 have hi : l.toArray[i]? = some oi := by simpa using hi0
 have hin' : i < n := of_decide_eq_true hin
 have hr' : i ∈ Region.ready .any l.toArray listed := by simpa using hr
 exact first_ hF hi hQ hin' f listed a w inv (Region.free_spec hi hf) hr' hy hS (h hF (inv.set hr' hin'))

/-- Operation i is the one that may come up: it is carried out; S is to be shown anew. -/
theorem step_ {l : List Oper} (i : Nat) {oi : Oper} {f : Nat} {listed : Array Bool} {a : Act} {w : World} (hi0 : l[i]? = some oi) (hin : decide (i < n) = true)
  (hr : Region.ready .any l.toArray listed = [i])
  (h : ∀ K' : Act → World → Prop, Shut (∀ a w, S w → (S w → Go_ P l.toArray Q S n f (listed.setIfInBounds i true) a w) → K' a w) → if Region.wanted oi (yielded l.toArray a.tmps) = true then Oper.wp P oi a w K' Q else K' (a.put oi.dst undef) w) :
  Go_ P l.toArray Q S n (f + 1) listed a w := fun hF inv => by
 have hi : l.toArray[i]? = some oi := by simpa using hi0
 have hin' : i < n := of_decide_eq_true hin
 have hr' : i ∈ Region.ready .any l.toArray listed := by rw [hr]; simp
 have hun := (mem_ready.1 hr').1
 refine ⟨⟨i, hin', hun⟩, by rw [hr]; simp, fun j hj => ?_⟩
 rw [hr] at hj
 have hji : j = i := by simpa using hj
 subst hji
 exact wpOp_step hi (fun K' hK => h K' (fun a w hS hW => hK a w ⟨hS, hW hS hF (inv.set hr' hin')⟩))

/-- The first n have come up: the rest. -/
theorem rest_ {l : List Oper} {listed : Array Bool} {a : Act} {w : World} (hB : Region.seqB .any l.toArray (l.toArray.size - n) n listed = true) (h : wpList P l.toArray Q (l.drop n) a w) : Go_ P l.toArray Q S n 0 listed a w := fun _ _ => ⟨hB, h⟩
end
end Go.Proofs.YtjacphcbiaacnaaDoor.Held
end

section
/- The heights under way, as the program reckons them: from the last instruction on. -/
set_option linter.unusedVariables false
set_option linter.unusedSimpArgs false
set_option linter.unusedSectionVars false
namespace Go.Proofs.YtjacphcbiaacnaaDoor
open Go.RowKit Go.Proofs.YtjacphcbiaacnaaDoorW.PrintWords Go.Proofs.YtjacphcbiaacnaaDoor.PDigraphTells Sc

/-- Heights from k on are done; below k the ways over q ≥ k are seen, those over k itself where V says so. -/
structure Hr (S : Ins) (T : List Int) (k : Nat) (V : Nat → Prop) : Prop where
 hp : Hp S T k
 ze : ∀ i, i < k → i < S.n → rd T (i : Int) = 0 ∨ ∃ q, k ≤ q ∧ q < S.n ∧ S.D q i = true ∧ rd T (i : Int) = S.dl i q + rd T (q : Int)
 po : ∀ i, i < k → i < S.n → 0 ≤ rd T (i : Int)
 up : ∀ i q, i < k → i < S.n → k ≤ q → q < S.n → (q = k → V i) → S.D q i = true → S.dl i q + rd T (q : Int) ≤ rd T (i : Int)
theorem rd_setn {T : List Int} {i : Nat} (hi : i < T.length) (x : Int) (a : Nat) : rd (T.set i x) (a : Int) = if a = i then x else rd T (a : Int) := by
 have := rd_set T (i : Int) x (a : Int) (by omega) (by omega) (by omega)
 rw [Int.toNat_natCast] at this
 rw [this]
 by_cases e : a = i
 ·rw [if_pos (by omega), if_pos e]
 ·rw [if_neg (by omega), if_neg e]
theorem rd_rep (n : Nat) (i : Nat) : rd (List.replicate n 0) (i : Int) = 0 := by
 unfold rd
 rw [List.getD_eq_getElem?_getD, List.getElem?_replicate]
 split <;> rfl
theorem Hr.start (S : Ins) : Hr S (List.replicate S.n 0) S.n (fun _ => True) :=
 ⟨⟨by simp, fun i h1 h2 => by omega, fun i h1 h2 => by omega, fun i k h1 h2 h3 => by omega⟩, fun i _ _ => .inl (rd_rep _ _), fun i _ _ => by rw [rd_rep]; omega, fun i q _ _ h1 h2 => by omega⟩
theorem Hr.store {S : Ins} (hS : Ok S) {T : List Int} {k : Nat} (h : Hr S T (k + 1) (fun _ => True)) (hk : k < S.n) {x : Int} (hx : (x = rd T (k : Int) ∨ x = S.lt k) ∧ rd T (k : Int) ≤ x ∧ S.lt k ≤ x) : Hr S (T.set k x) k (fun _ => False) := by
 have hr := rd_setn (T := T) (i := k) (by rw [h.hp.len]; exact hk) x
 have h1 := (hS.lt1 k).1
 refine ⟨⟨by rw [List.length_set]; exact h.hp.len, fun i hi hn => ?_, fun i hi hn => ?_, fun i q hi h2 h3 h4 => ?_⟩, fun i hi hn => ?_, fun i hi hn => ?_, fun i q hi hn h2 h3 h4 h5 => ?_⟩
 ·by_cases e : i = k
  ·subst e
   rw [hr, if_pos rfl]
   rcases hx.1 with e1 | e1
   ·rcases h.ze i (by omega) hn with e2 | ⟨q, q1, q2, q3, q4⟩
    ·omega
    ·exact .inr ⟨q, by omega, q2, q3, by rw [hr, if_neg (by omega), e1]; exact q4⟩
   ·exact .inl e1
  ·rw [hr, if_neg e]
   rcases h.hp.eq i (by omega) hn with e1 | ⟨q, q1, q2, q3, q4⟩
   ·exact .inl e1
   ·exact .inr ⟨q, q1, q2, q3, by rw [hr, if_neg (by omega)]; exact q4⟩
 ·by_cases e : i = k
  ·subst e; rw [hr, if_pos rfl]; exact hx.2.2
  ·rw [hr, if_neg e]; exact h.hp.lo i (by omega) hn
 ·rw [hr q, if_neg (by omega)]
  by_cases e : i = k
  ·subst e
   rw [hr, if_pos rfl]
   have := h.up i q (by omega) (by omega) (by omega) h3 (fun _ => trivial) h4
   omega
  ·rw [hr, if_neg e]; exact h.hp.up i q (by omega) h2 h3 h4
 ·rw [hr, if_neg (by omega)]
  rcases h.ze i (by omega) hn with e1 | ⟨q, q1, q2, q3, q4⟩
  ·exact .inl e1
  ·exact .inr ⟨q, by omega, q2, q3, by rw [hr, if_neg (by omega)]; exact q4⟩
 ·rw [hr, if_neg (by omega)]; exact h.po i (by omega) hn
 ·have hq : q ≠ k := fun e => (h4 e).elim
  rw [hr, if_neg (by omega), hr, if_neg (by omega)]
  exact h.up i q (by omega) hn (by omega) h3 (fun _ => trivial) h5
theorem Hr.relax {S : Ins} {T : List Int} {k : Nat} {V V' : Nat → Prop} (h : Hr S T k V) (hk : k < S.n) {i : Nat} (hi : i < k) (hd : S.D k i = true) {x : Int} (hx : (x = rd T (i : Int) ∨ x = S.dl i k + rd T (k : Int)) ∧ rd T (i : Int) ≤ x ∧ S.dl i k + rd T (k : Int) ≤ x) (hV : ∀ a, V' a → V a ∨ a = i) : Hr S (T.set i x) k V' := by
 have hr := rd_setn (T := T) (i := i) (by rw [h.hp.len]; omega) x
 refine ⟨⟨by rw [List.length_set]; exact h.hp.len, fun a ha hn => ?_, fun a ha hn => ?_, fun a q ha h2 h3 h4 => ?_⟩, fun a ha hn => ?_, fun a ha hn => ?_, fun a q ha hn h2 h3 h4 h5 => ?_⟩
 ·rw [hr, if_neg (by omega)]
  rcases h.hp.eq a (by omega) hn with e1 | ⟨q, q1, q2, q3, q4⟩
  ·exact .inl e1
  ·exact .inr ⟨q, q1, q2, q3, by rw [hr, if_neg (by omega)]; exact q4⟩
 ·rw [hr, if_neg (by omega)]; exact h.hp.lo a ha hn
 ·rw [hr, if_neg (by omega), hr, if_neg (by omega)]; exact h.hp.up a q ha h2 h3 h4
 ·by_cases e : a = i
  ·subst e
   rw [hr, if_pos rfl]
   rcases hx.1 with e1 | e1
   ·rcases h.ze a ha hn with e2 | ⟨q, q1, q2, q3, q4⟩
    ·exact .inl (by omega)
    ·exact .inr ⟨q, q1, q2, q3, by rw [hr, if_neg (by omega), e1]; exact q4⟩
   ·exact .inr ⟨k, Nat.le_refl _, hk, hd, by rw [hr, if_neg (by omega)]; exact e1⟩
  ·rw [hr, if_neg e]
   rcases h.ze a ha hn with e1 | ⟨q, q1, q2, q3, q4⟩
   ·exact .inl e1
   ·exact .inr ⟨q, q1, q2, q3, by rw [hr, if_neg (by omega)]; exact q4⟩
 ·by_cases e : a = i
  ·subst e; rw [hr, if_pos rfl]; have := h.po a ha hn; omega
  ·rw [hr, if_neg e]; exact h.po a ha hn
 ·rw [hr q, if_neg (by omega)]
  by_cases e : a = i
  ·subst e
   rw [hr, if_pos rfl]
   by_cases e2 : q = k
   ·subst e2; exact hx.2.2
   ·have := h.up a q ha hn h2 h3 (fun e3 => (e2 e3).elim) h5
    omega
  ·rw [hr, if_neg e]
   exact h.up a q ha hn h2 h3 (fun e3 => (hV a (h4 e3)).resolve_right e) h5
theorem Hr.done {S : Ins} {T : List Int} {k : Nat} {V : Nat → Prop} (h : Hr S T k V) (hV : ∀ i, i < k → S.D k i = true → V i) : Hr S T k (fun _ => True) :=
 ⟨h.hp, h.ze, h.po, fun i q h1 h2 h3 h4 h5 h6 => h.up i q h1 h2 h3 h4 (fun e => hV i h1 (e ▸ h6)) h6⟩
theorem Hr.bd {S : Ins} (hS : Ok S) {T : List Int} {k : Nat} {V : Nat → Prop} (h : Hr S T k V) (i : Nat) (hi : i < S.n) : 0 ≤ rd T (i : Int) ∧ rd T (i : Int) ≤ 20000 := by
 have hn := hS.n100
 have key : ∀ q, k ≤ q → q < S.n → 1 ≤ rd T (q : Int) ∧ rd T (q : Int) ≤ 10000 := fun q h1 h2 => by
  have := h.hp.bd hS (S.n - q) q (by omega) h1 h2
  omega
 by_cases e : i < k
 ·refine ⟨h.po i e hi, ?_⟩
  rcases h.ze i e hi with e1 | ⟨q, q1, q2, q3, q4⟩
  ·omega
  ·have := (key q q1 q2).2
   have := (hS.dl1 i q).2
   omega
 ·have := key i (by omega) hi
  omega
/-- The cycles: from m on -1. -/
def cyM (n m : Nat) : List Int := tbn n (fun i => if m ≤ i then -1 else 0)
theorem cyM_set {n k : Nat} (hk : k < n) : (cyM n (k + 1)).set k (-1) = cyM n k := by
 unfold cyM
 rw [tbn_set]
 refine tbn_ext fun i hi => ?_
 by_cases e : i = k
 ·rw [if_pos e, if_pos (by omega)]
 ·rw [if_neg e]
  by_cases e2 : k + 1 ≤ i
  ·rw [if_pos e2, if_pos (by omega)]
  ·rw [if_neg e2, if_neg (by omega)]
theorem cyM_start (n : Nat) : List.replicate n 0 = cyM n n := by
 refine rd_ext (by simp [cyM, tbn_len]) fun i hi => ?_
 rw [rd_rep]
 have hi : i < n := by simpa using hi
 unfold cyM
 rw [tbn_rd _ hi, if_neg (by omega)]
theorem cyM_end (n : Nat) : cyM n 0 = tbn n st0.t := tbn_ext fun i hi => by rw [if_pos (Nat.zero_le _)]; rfl
end Go.Proofs.YtjacphcbiaacnaaDoor
end

