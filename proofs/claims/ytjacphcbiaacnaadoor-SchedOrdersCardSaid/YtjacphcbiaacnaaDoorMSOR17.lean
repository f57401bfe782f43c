import Derived.Test.YtjacphcbiaacnaaDoorMSOR16
section
/- The scheduler's making: newScheduler. -/
set_option linter.unusedVariables false
set_option linter.unusedSimpArgs false
set_option linter.unusedSectionVars false
namespace Go.Proofs.YtjacphcbiaacnaaDoor
open Go.RowKit Go.Proofs.YtjacphcbiaacnaaDoorW.PrintWords Go.Proofs.YtjacphcbiaacnaaDoor.PDigraphTells Mem Sc

/-- A model and a block in memory. -/
structure Bk (w : World) (AL : Option Addr) (cL : Nat) (Lat : List Int) (AP : Option Addr) (cP : Nat) (P : List Int) (AI : Option Addr) (cI : Nat) (B : List S48) (A3 : Option Addr) (c3 : Nat) (t1 : List Int) (A4 : Option Addr) (c4 : Nat) (t2 : List Int) (A5 : Option Addr) (c5 : Nat) (t3 : List S98) : Prop where
  rL : Kd.C (Kd.int .i64) w AL Lat.length Lat
  hL : Lat.length ≤ cL
  rP : Kd.C (Kd.int .i64) w AP P.length P
  hP : P.length ≤ cP
  rI : Kd.C k48 w AI B.length B
  hI : B.length ≤ cI
  r1 : Kd.C (Kd.int .i64) w A3 t1.length t1
  h1 : t1.length ≤ c3
  r2 : Kd.C (Kd.int .i64) w A4 t2.length t2
  h2 : t2.length ≤ c4
  r3 : Kd.C k98 w A5 t3.length t3
  h3 : t3.length ≤ c5
section
variable {w w' : World} {W R : Int} {AL : Option Addr} {cL : Nat} {Lat : List Int} {AP : Option Addr} {cP : Nat} {P : List Int} {AI : Option Addr} {cI : Nat} {B : List S48} {A3 : Option Addr} {c3 : Nat} {t1 : List Int} {A4 : Option Addr} {c4 : Nat} {t2 : List Int} {A5 : Option Addr} {c5 : Nat} {t3 : List S98} {t0 t4 : Int}
theorem Bk.below (h : Bk w AL cL Lat AP cP P AI cI B A3 c3 t1 A4 c4 t2 A5 c5 t3) (hb : Below w.heap.size w w') : Bk w' AL cL Lat AP cP P AI cI B A3 c3 t1 A4 c4 t2 A5 c5 t3 :=
  ⟨Kd.C_below h.rL hb, h.hL, Kd.C_below h.rP hb, h.hP, Kd.C_below h.rI hb, h.hI, Kd.C_below h.r1 hb, h.h1, Kd.C_below h.r2 hb, h.h2, Kd.C_below h.r3 hb, h.h3⟩
theorem deps_any (h : Bk w AL cL Lat AP cP P AI cI B A3 c3 t1 A4 c4 t2 A5 c5 t3) (hB : sml B) (t0 t4 : Int) :
    Calls Tryd.prog 18 #[.agg #[.slice AP P.length cP, .slice AI B.length cI, .int .i64 t0, .slice A3 t1.length c3, .slice A4 t2.length c4, .slice A5 t3.length c5, .int .i64 t4]] w fun e w' => ∃ v, e = .returned v ∧ Kd.S (Kd.slice 3 (Kd.int .i64)) 22 w' w.heap.size (fun _ => True) v (depL B) ∧ Below w.heap.size w w' := by
  obtain ⟨k, hk⟩ := (deps_f P B t0 t1 t2 t3 t4 hB).get
  exact sched_Dependences.calls k AP cP P AI cI B t0 A3 c3 t1 A4 c4 t2 A5 c5 t3 t4 (depL B) w h.rP h.hP h.rI h.hI h.r1 h.h1 h.r2 h.h2 h.r3 h.h3 hk
/-- What newScheduler hands back. -/
def NS (w : World) (W R : Int) (AL : Option Addr) (cL : Nat) (Lat : List Int) (AI : Option Addr) (cI : Nat) (B : List S48) (e : Ending) (w' : World) : Prop :=
  ∃ p AD cD AH cH T AY cY, e = .returned (.pointer (some ⟨p, 0, none⟩)) ∧ Hp (insS W Lat B) T 0 ∧ Sf w' p W R AL cL Lat AI cI B AD cD AH cH T AY cY (tbn B.length st0.t) ∧ Below w.heap.size w w' ∧
    (0 < B.length → ∃ gc, AY = some ⟨gc, 0, none⟩ ∧ w.heap.size ≤ gc ∧ gc < w'.heap.size ∧ Kd.R (Kd.int .i64) 3 w' 0 (fun k => k = gc) (.slice AY B.length cY) (tbn B.length st0.t) ∧
      ∀ (wi : World) (t : Nat → Int), Kp (fun k => k = gc) w' wi → Kd.R (Kd.int .i64) 3 wi 0 (fun k => k = gc) (.slice AY B.length cY) (tbn B.length t) → Sf wi p W R AL cL Lat AI cI B AD cD AH cH T AY cY (tbn B.length t))
theorem own_form {e : Nat} {W0 : World} {base : Nat} {ok : Nat → Prop} {v : Value} {xs : List Int} {b : Nat} (h : Kd.R (Kd.int .i64) e W0 base ok v xs) (hv : v.ownBlock = some b) : ∃ c, v = .slice (some ⟨b, 0, none⟩) xs.length c ∧ xs.length ≤ c ∧ b < W0.heap.size := by
  have hb := Kd.R_lt h b hv
  obtain ⟨A, c, e1, hc, _⟩ := Kd.R_reads h
  obtain ⟨inner, ho⟩ := Kd.R_own h
  rcases ho.2 with ⟨e2, _⟩ | ⟨g, cap, cur, e2, _⟩
  · rw [e2] at hv; simp [Value.ownBlock] at hv
  · rw [e2] at hv
    have : g = b := by simpa [Value.ownBlock] using hv
    subst this
    rw [e1] at e2
    injection e2 with q1 q2 q3
    subst q1
    exact ⟨c, e1, hc, hb⟩
/-- A row of n numbers in the block g of its own. -/
def Rg (wi : World) (g n c : Nat) (T : List Int) : Prop := T.length = n ∧ n ≤ c ∧ Kd.R (Kd.int .i64) 3 wi 0 (fun k => k = g) (.slice (some ⟨g, 0, none⟩) n c) T ∧ g < wi.heap.size
theorem Rg.below {wi wj : World} {g n c : Nat} {T : List Int} (h : Rg wi g n c T) (hb : Below wi.heap.size wi wj) : Rg wj g n c T := ⟨h.1, h.2.1, Kd.R_below h.2.2.1 hb, Nat.lt_of_lt_of_le h.2.2.2 hb.size⟩
theorem Rg.far {wi : World} {g n c : Nat} {T : List Int} (h : Rg wi g n c T) {p : Addr} (hp : g ≠ p.block) (u : Value) : Rg (wi.setCell p u) g n c T := ⟨h.1, h.2.1, Kd.R_far h.2.2.1 (fun k hk => by rw [hk]; exact hp) u, by simpa [World.setCell] using h.2.2.2⟩
theorem Rg.put {wi : World} {g n c : Nat} {T : List Int} (h : Rg wi g n c T) (k : Nat) (x : Int) : Rg (wi.setCell ⟨g, k, none⟩ (.int .i64 x)) g n c (T.set k x) := by
  obtain ⟨h1, h2, h3, h4⟩ := h
  subst h1
  have := (Kd.R_putg h3 (k : Int) x).1
  rw [Int.toNat_natCast] at this
  exact ⟨by simp, h2, this, by simpa [World.setCell] using h4⟩
theorem Rg.cell {wi : World} {g n c : Nat} {T : List Int} (h : Rg wi g n c T) (k : Nat) (hk : k < n) : wi.cell? ⟨g, k, none⟩ = some (.int .i64 (rd T (k : Int))) ∧ wi.frozen? ⟨g, k, none⟩ = false := by
  obtain ⟨h1, h2, h3, h4⟩ := h
  subst h1
  have := Kd.R_cell 0 h3 (k : Int) (by omega) (by omega)
  rw [Int.toNat_natCast] at this
  exact this
theorem Rg.reads {wi : World} {g n c : Nat} {T : List Int} (h : Rg wi g n c T) : Kd.C (Kd.int .i64) wi (some ⟨g, 0, none⟩) n T := by
  have := (Kd.R_reads' h.2.2.1).2.2
  rw [h.1] at this
  exact this
theorem Rg.of {wi : World} {e1 : Nat} {ok : Nat → Prop} {b n : Nat} {T : List Int} {v : Value} (h : Kd.R (Kd.int .i64) 3 wi e1 ok v T) (hv : v.ownBlock = some b) (hl : T.length = n) : ∃ c, v = .slice (some ⟨b, 0, none⟩) n c ∧ Rg wi b n c T := by
  obtain ⟨c, e, hc, hb⟩ := own_form h hv
  subst hl
  refine ⟨c, e, rfl, hc, ?_, hb⟩
  have := Kd.R_tight rfl (Kd.R_lower h (Nat.zero_le _))
  subst e
  exact Kd.R_mono this (fun k hk => by simpa [Value.ownBlock] using hk)
/-- The dependences' rows lie in the blocks of [lo, hi). -/
def Dg (wi : World) (lo hi n : Nat) (AD : Option Addr) (cD : Nat) (D : List (List Int)) : Prop := D.length = n ∧ n ≤ cD ∧ Kd.R (Kd.slice 3 (Kd.int .i64)) 22 wi 0 (fun k => lo ≤ k ∧ k < hi) (.slice AD n cD) D
theorem Dg.below {wi wj : World} {lo hi n : Nat} {AD : Option Addr} {cD : Nat} {D : List (List Int)} (h : Dg wi lo hi n AD cD D) (hb : Below wi.heap.size wi wj) : Dg wj lo hi n AD cD D := ⟨h.1, h.2.1, Kd.R_below h.2.2 hb⟩
theorem Dg.far {wi : World} {lo hi n : Nat} {AD : Option Addr} {cD : Nat} {D : List (List Int)} (h : Dg wi lo hi n AD cD D) {p : Addr} (hp : p.block < lo ∨ hi ≤ p.block) (u : Value) : Dg (wi.setCell p u) lo hi n AD cD D := ⟨h.1, h.2.1, Kd.R_far h.2.2 (fun k hk e => by omega) u⟩
theorem Dg.reads {wi : World} {lo hi n : Nat} {AD : Option Addr} {cD : Nat} {D : List (List Int)} (h : Dg wi lo hi n AD cD D) : Kd.C (Kd.slice 3 (Kd.int .i64)) wi AD n D := by
  have := (Kd.R_reads' h.2.2).2.2
  rw [h.1] at this
  exact this
theorem Dg.of {W wi : World} {D : List (List Int)} {v : Value} (h : Kd.S (Kd.slice 3 (Kd.int .i64)) 22 wi W.heap.size (fun _ => True) v D) {n : Nat} (hl : D.length = n) : ∃ AD cD, v = .slice AD n cD ∧ Dg wi W.heap.size wi.heap.size n AD cD D := by
  have h1 := Kd.R_bound (Kd.S_R h)
  obtain ⟨A, c, e, hc, _⟩ := Kd.R_reads h1
  subst hl
  refine ⟨A, c, e, rfl, hc, ?_⟩
  subst e
  exact Kd.R_mono (Kd.R_lower h1 (Nat.zero_le _)) (fun k hk => ⟨hk.2.1, hk.2.2.1⟩)
theorem depL_len (B : List S48) : (depL B).length = B.length := by unfold depL; exact tb1_len _ _
theorem bl1 {w2 W1 W2 : World} (h1 : Below w2.heap.size w2 W1) (h2 : Below W1.heap.size W1 W2) : Below w2.heap.size w2 W2 := h1.trans (h2.mono h1.size)
theorem cb1 {w2 wc w7 : World} (h : Below w2.heap.size w2 wc) (hb : Below wc.heap.size wc w7) : Below wc.heap.size wc w7 := hb
theorem cb2 {w2 wc w7 : World} (h : Below w2.heap.size w2 wc) (hb : Below wc.drew.heap.size wc.drew w7) : Below wc.heap.size wc w7 := (below_drew (Below.refl _ _)).trans hb
theorem cb3 {w2 wc w7 : World} {m : Nat} (h : Below w2.heap.size w2 wc) (hb : Below (wc.drewN m).heap.size (wc.drewN m) w7) : Below wc.heap.size wc w7 := (pw_below_drewN (Below.refl _ _) _).trans hb
theorem dg_ex {w2 wc w6 : World} {n : Nat} {AD : Option Addr} {cD : Nat} {D : List (List Int)} (h : Below w2.heap.size w2 wc) (hs : wc.heap.size ≤ w6.heap.size) (hd : Dg w6 wc.heap.size w6.heap.size n AD cD D) : ∃ lo hi, Dg w6 lo hi n AD cD D ∧ (wc.heap.size ≤ lo ∧ w2.heap.size ≤ lo) ∧ hi ≤ w6.heap.size := ⟨_, _, hd, ⟨Nat.le_refl _, h.size⟩, Nat.le_refl _⟩
/-- A row of zeros is made. -/
theorem step_ints {K Q} {a : Act} {o : Oper} {ops : Array Oper} {W : World} (hw : Region.wanted o (yielded ops a.tmps) = true) {N : Tmp} (hd : o.dst = some N) (x y : Operand) (ho : o.op = .makeSlice 22 x y) (n : Nat) (hx : a.eval x = .int .i64 (n : Int)) (hy : a.eval y = .int .i64 (n : Int)) (hn : n ≤ 60)
    (h : ∀ (b c : Nat) (w1 : World), Rg w1 b n c (List.replicate n 0) → Below W.heap.size W w1 → W.heap.size ≤ b → K (a.put o.dst (.slice (some ⟨b, 0, none⟩) n c)) w1) : if Region.wanted o (yielded ops a.tmps) = true then Oper.wp Tryd.prog o a W K Q else K (a.put o.dst undef) W := by
  refine Kd.R_make_step (Kd.int .i64) (w0 := W) 0 3 hw hd 22 x y ho (n : Int) hx hy Tryd.underlying22 (.int .i64 0) 8 info3 rfl (by decide) (by decide) 0 (ok := fun k => True) (okp := fun _ => False) ?_ (fun _ h => h.elim) trivial (by omega) (by omega) (Below.refl 0 W) (Nat.zero_le _) ?_
  · first | rfl | exact ⟨rfl, rfl⟩ | simp [Kd.int, Kd.scalar]
  · intro v1 w1 hR _ hg ⟨b, hb, hle⟩
    rw [Int.toNat_natCast] at hR
    obtain ⟨c, e, hG⟩ := Rg.of hR hb (n := n) (by simp)
    subst e
    have b7 : Below W.heap.size W w1 := ((Kp.refl (fun _ => False) W).grown hg (fun k hk => by cases hk)).none_below
    exact h b c w1 hG b7 hle
theorem upon_ints {K Q} {a : Act} {o : Oper} {W : World} {N : Tmp} (hd : o.dst = some N) (hgd : o.guard = none) (x y : Operand) (ho : o.op = .makeSlice 22 x y) (n : Nat) (hx : a.eval x = .int .i64 (n : Int)) (hy : a.eval y = .int .i64 (n : Int)) (hn : n ≤ 60)
    (h : ∀ (b c : Nat) (w1 : World), Rg w1 b n c (List.replicate n 0) → Below W.heap.size W w1 → W.heap.size ≤ b → K (a.put o.dst (.slice (some ⟨b, 0, none⟩) n c)) w1) : Oper.upon Tryd.prog o a K Q ((Sem.run Tryd.prog (Instr.makeSlice 22 (.int .i64 (n : Int)) (.int .i64 (n : Int))) W).andThen fun a w' => Result.ok (Next.value a) w') := by
  have hw : Region.wanted o (yielded #[] a.tmps) = true := by simp [Region.wanted, hgd]
  have hs := step_ints (ops := #[]) (Q := Q) hw hd x y ho n hx hy hn h
  rw [if_pos hw] at hs
  unfold Oper.wp at hs
  simpa [execOp, ho, hx, hy] using hs
/-- The scheduler under making: heights T, cycles Y. -/
structure Nw (w wi : World) (p : Nat) (W R : Int) (AL : Option Addr) (cL nL : Nat) (AI : Option Addr) (cI n : Nat) (AD : Option Addr) (cD gH cH gY cY lo hi : Nat) (D : List (List Int)) (T Y : List Int) : Prop where
  b : Below w.heap.size w wi
  g : wi.heap[p]? = some (.cells #[.int .i64 W, .int .i64 R, .slice AL nL cL, .slice AI n cI, .slice AD n cD, .slice (some ⟨gH, 0, none⟩) n cH, .slice (some ⟨gY, 0, none⟩) n cY] 69 (0, 0))
  rD : Dg wi lo hi n AD cD D
  rH : Rg wi gH n cH T
  rY : Rg wi gY n cY Y
  n1 : gH < lo ∨ hi ≤ gH
  n2 : gY < lo ∨ hi ≤ gY
  n3 : gH ≠ gY
  n4 : gH ≠ p
  n5 : gY ≠ p
  n6 : w.heap.size ≤ gH
  n7 : w.heap.size ≤ gY
section
variable {w wi wj : World} {p : Nat} {W R : Int} {AL : Option Addr} {cL nL : Nat} {AI : Option Addr} {cI n : Nat} {AD : Option Addr} {cD gH cH gY cY lo hi : Nat} {D : List (List Int)} {T Y : List Int}
theorem Nw.below (h : Nw w wi p W R AL cL nL AI cI n AD cD gH cH gY cY lo hi D T Y) (hb : Below wi.heap.size wi wj) : Nw w wj p W R AL cL nL AI cI n AD cD gH cH gY cY lo hi D T Y :=
  ⟨bl1 h.b hb, (hb.block p (blk_lt' h.g)).trans h.g, h.rD.below hb, h.rH.below hb, h.rY.below hb, h.n1, h.n2, h.n3, h.n4, h.n5, h.n6, h.n7⟩
theorem Nw.setH (h : Nw w wi p W R AL cL nL AI cI n AD cD gH cH gY cY lo hi D T Y) (k : Nat) (x : Int) : Nw w (wi.setCell ⟨gH, k, none⟩ (.int .i64 x)) p W R AL cL nL AI cI n AD cD gH cH gY cY lo hi D (T.set k x) Y :=
  ⟨(((Kp.of_below h.b (fun _ => False)).setCell (p := ⟨gH, k, none⟩) (.inr h.n6) _)).none_below, (Below.heap_setCell wi ⟨gH, k, none⟩ _ p (fun e => h.n4 e.symm)).trans h.g, h.rD.far h.n1 _, h.rH.put k x, h.rY.far (fun e => h.n3 e.symm) _, h.n1, h.n2, h.n3, h.n4, h.n5, h.n6, h.n7⟩
theorem Nw.setY (h : Nw w wi p W R AL cL nL AI cI n AD cD gH cH gY cY lo hi D T Y) (k : Nat) (x : Int) : Nw w (wi.setCell ⟨gY, k, none⟩ (.int .i64 x)) p W R AL cL nL AI cI n AD cD gH cH gY cY lo hi D T (Y.set k x) :=
  ⟨(((Kp.of_below h.b (fun _ => False)).setCell (p := ⟨gY, k, none⟩) (.inr h.n7) _)).none_below, (Below.heap_setCell wi ⟨gY, k, none⟩ _ p (fun e => h.n5 e.symm)).trans h.g, h.rD.far h.n2 _, h.rH.far h.n3 _, h.rY.put k x, h.n1, h.n2, h.n3, h.n4, h.n5, h.n6, h.n7⟩
end
theorem Nw.sf {w wi : World} {p : Nat} {W R : Int} {AL : Option Addr} {cL : Nat} {Lat : List Int} {AP : Option Addr} {cP : Nat} {P : List Int} {AI : Option Addr} {cI : Nat} {B : List S48} {A3 : Option Addr} {c3 : Nat} {t1 : List Int} {A4 : Option Addr} {c4 : Nat} {t2 : List Int} {A5 : Option Addr} {c5 : Nat} {t3 : List S98} {AD : Option Addr} {cD gH cH gY cY lo hi : Nat} {T Y : List Int}
    (h : Nw w wi p W R AL cL Lat.length AI cI B.length AD cD gH cH gY cY lo hi (depL B) T Y) (hk : Bk w AL cL Lat AP cP P AI cI B A3 c3 t1 A4 c4 t2 A5 c5 t3) : Sf wi p W R AL cL Lat AI cI B AD cD (some ⟨gH, 0, none⟩) cH T (some ⟨gY, 0, none⟩) cY Y :=
  ⟨h.g, (hk.below h.b).rL, hk.hL, (hk.below h.b).rI, hk.hI, h.rD.reads, h.rD.2.1, h.rH.reads, h.rH.2.1, h.rY.reads, h.rY.2.1⟩
theorem nw_mk {w w2 wc : World} {W R : Int} {AL : Option Addr} {cL nL : Nat} {AI : Option Addr} {cI n : Nat} {AD : Option Addr} {cD gH cH gY cY lo hi : Nat} {D : List (List Int)} {T Y : List Int} (B2 : Below w.heap.size w w2) (H0 : Below w2.heap.size w2 wc) (hD : Dg wc lo hi n AD cD D ∧ w2.heap.size ≤ lo ∧ hi ≤ wc.heap.size) (hH : Rg wc gH n cH T ∧ w2.heap.size ≤ gH) (hY : Rg wc gY n cY Y ∧ w2.heap.size ≤ gY) (n1 : gH < lo ∨ hi ≤ gH) (n2 : gY < lo ∨ hi ≤ gY) (n3 : gH ≠ gY) :
    ∃ p wE, wc.heap.size = p ∧ wc.alloc (.cells #[.int .i64 W, .int .i64 R, .slice AL nL cL, .slice AI n cI, .slice AD n cD, .slice (some ⟨gH, 0, none⟩) n cH, .slice (some ⟨gY, 0, none⟩) n cY] 69) = wE ∧ Nw w wE p W R AL cL nL AI cI n AD cD gH cH gY cY lo hi D T Y := by
  have hb : ∀ o, Below wc.heap.size wc (wc.alloc o) := fun o => below_alloc (Below.refl _ _) o
  refine ⟨_, _, rfl, rfl, bl1 (bl1 B2 (H0)) (hb _), heap_alloc_new wc _, hD.1.below (hb _), hH.1.below (hb _), hY.1.below (hb _), n1, n2, n3, ?_, ?_, ?_, ?_⟩
  · exact Nat.ne_of_lt hH.1.2.2.2
  · exact Nat.ne_of_lt hY.1.2.2.2
  · exact Nat.le_trans B2.size hH.2
  · exact Nat.le_trans B2.size hY.2
theorem nw_end {w w2 wi : World} {p : Nat} {W R : Int} {AL : Option Addr} {cL : Nat} {Lat : List Int} {AP : Option Addr} {cP : Nat} {P : List Int} {AI : Option Addr} {cI : Nat} {B : List S48} {A3 : Option Addr} {c3 : Nat} {t1 : List Int} {A4 : Option Addr} {c4 : Nat} {t2 : List Int} {A5 : Option Addr} {c5 : Nat} {t3 : List S98} {AD : Option Addr} {cD gH cH gY cY lo hi : Nat} {T : List Int}
    (B2 : Below w.heap.size w w2) (hk : Bk w2 AL cL Lat AP cP P AI cI B A3 c3 t1 A4 c4 t2 A5 c5 t3) (h : Nw w2 wi p W R AL cL Lat.length AI cI B.length AD cD gH cH gY cY lo hi (depL B) T (cyM B.length 0)) (hp : Hp (insS W Lat B) T 0) : NS w W R AL cL Lat AI cI B (.returned (.pointer (some ⟨p, 0, none⟩))) wi := by
  rw [cyM_end] at h
  refine ⟨p, AD, cD, _, cH, T, _, cY, rfl, hp, h.sf hk, bl1 B2 h.b, fun hn => ⟨gY, rfl, Nat.le_trans B2.size h.n7, h.rY.2.2.2, h.rY.2.2.1, fun wj t hK hY => ?_⟩⟩
  have hb : Below w2.heap.size w2 wj := ((Kp.of_below h.b (fun _ => False)).then_ hK (fun k e => .inr (by rw [e]; exact h.n7))).none_below
  have hY2 := (Kd.R_reads' hY).2.2
  rw [tbn_len] at hY2
  have hD : Dg wj lo hi B.length AD cD (depL B) := ⟨h.rD.1, h.rD.2.1, Kd.R_step h.rD.2.2 (fun k hk hlt => hK.block hlt (fun e => by have := h.n2; omega))⟩
  have hH : Rg wj gH B.length cH T := ⟨h.rH.1, h.rH.2.1, Kd.R_step h.rH.2.2.1 (fun k hk hlt => hK.block hlt (fun e => h.n3 (hk.symm.trans e))), Nat.lt_of_lt_of_le h.rH.2.2.2 hK.size⟩
  exact ⟨(hK.block (blk_lt' h.g) (fun e => h.n5 e.symm)).trans h.g, (hk.below hb).rL, hk.hL, (hk.below hb).rI, hk.hI, hD.reads, hD.2.1, hH.reads, hH.2.1, hY2, h.rY.2.1⟩
theorem addz (g k : Nat) : (⟨g, 0, none⟩ : Addr).add k = ⟨g, k, none⟩ := by
  unfold Addr.add
  by_cases h : k = 0
  · subst h; simp
  · simp [h]
theorem dg_form {wi : World} {lo hi n : Nat} {AD : Option Addr} {cD : Nat} {D : List (List Int)} (h : Dg wi lo hi n AD cD D) (hn : 0 < n) : ∃ g, AD = some ⟨g, 0, none⟩ ∧ lo ≤ g ∧ g < hi ∧ g < wi.heap.size := by
  obtain ⟨g, cap, e, _, hg, _⟩ := Kd.R_form h.2.2 (by rw [h.1]; exact hn)
  injection e with e1 e2 e3
  subst e1
  have := h.2.2.1 g (by simp [Value.ownBlock])
  exact ⟨g, rfl, this.1, this.2, hg⟩
theorem nw_max {w2 w6 : World} {S : Ins} {p : Nat} {W R : Int} {AL : Option Addr} {cL nL : Nat} {AI : Option Addr} {cI n : Nat} {AD : Option Addr} {cD gH cH gY cY lo hi : Nat} {D : List (List Int)} {T Y : List Int} {k : Nat} (hS : Ok S) (hR : Hr S T (k + 1) (fun _ => True)) (hk : k < S.n) (h : Nw w2 w6 p W R AL cL nL AI cI n AD cD gH cH gY cY lo hi D T Y) (tk lk : Int) (hl : S.lt k = lk) (ht : rd T (k : Int) = tk) :
    ∃ x w7, (if tk < lk then lk else tk) = x ∧ w6.setCell ⟨gH, k, none⟩ (.int .i64 x) = w7 ∧ Nw w2 w7 p W R AL cL nL AI cI n AD cD gH cH gY cY lo hi D (T.set k x) Y ∧ Hr S (T.set k x) k (fun _ => False) := by
  refine ⟨_, _, rfl, rfl, h.setH k _, Hr.store hS hR hk ?_⟩
  rw [hl, ht]
  split <;> omega
theorem nw_max2 {w2 w6 v7 : World} {S : Ins} {p : Nat} {W R : Int} {AL : Option Addr} {cL nL : Nat} {AI : Option Addr} {cI n : Nat} {AD : Option Addr} {cD gH cH gY cY lo hi : Nat} {D : List (List Int)} {T Y : List Int} {k i : Nat} {V : Nat → Prop} (V' : Nat → Prop) (hR : Hr S T k V) (hk : k < S.n) (hik : i < k) (hd : S.D k i = true) (hV : ∀ a, V' a → V a ∨ a = i) (h : Nw w2 w6 p W R AL cL nL AI cI n AD cD gH cH gY cY lo hi D T Y) (hK : Kp (fun q => q = gH) v7 w6) (ti tk d sm : Int) (hl : S.dl i k = d) (ht : rd T (k : Int) = tk) (hti : rd T (i : Int) = ti) (hsm : d + tk = sm) :
    ∃ x w7, (if ti < sm then sm else ti) = x ∧ w6.setCell ⟨gH, i, none⟩ (.int .i64 x) = w7 ∧ Nw w2 w7 p W R AL cL nL AI cI n AD cD gH cH gY cY lo hi D (T.set i x) Y ∧ Kp (fun q => q = gH) v7 w7 ∧ Hr S (T.set i x) k V' := by
  refine ⟨_, _, rfl, rfl, h.setH i _, hK.setCell (p := ⟨gH, i, none⟩) (.inl rfl) _, Hr.relax hR hk hik hd ?_ hV⟩
  rw [hl, ht, hti, hsm]
  split <;> omega
theorem cut9 {G H : Prop} (h : Aside0 G → H) (g : G) : H := h ⟨g⟩
set_option maxRecDepth 100000 in
set_option maxHeartbeats 4000000 in
theorem new_any (h : Bk w AL cL Lat AP cP P AI cI B A3 c3 t1 A4 c4 t2 A5 c5 t3) (hB : sml B) (hS : Ok (insS W Lat B)) :
    Calls Tryd.prog 26 #[.agg #[.int .i64 W, .int .i64 R, .slice AL Lat.length cL], .agg #[.slice AP P.length cP, .slice AI B.length cI, .int .i64 t0, .slice A3 t1.length c3, .slice A4 t2.length c4, .slice A5 t3.length c5, .int .i64 t4]] w (NS w W R AL cL Lat AI cI B) := by
  have hl := hB.len
  obtain ⟨b0, hb0⟩ : ∃ b0, b0 = w.heap.size := ⟨_, rfl⟩
  obtain ⟨w1, hw1⟩ : ∃ w1, w1 = w.alloc (.cells #[.int .i64 W, .int .i64 R, .slice AL Lat.length cL] 24 (0, 0)) := ⟨_, rfl⟩
  obtain ⟨w2, hw2⟩ : ∃ w2, w2 = w1.alloc (.cells #[.slice AP P.length cP, .slice AI B.length cI, .int .i64 t0, .slice A3 t1.length c3, .slice A4 t2.length c4, .slice A5 t3.length c5, .int .i64 t4] 31 (0, 0)) := ⟨_, rfl⟩
  have hs1 : w1.heap.size = w.heap.size + 1 := by rw [hw1]; simp
  have B2 : Below w.heap.size w w2 := by rw [hw2, hw1]; exact below_alloc (below_alloc (Below.refl _ w) _) _
  have z1 : w2.heap[b0]? = some (.cells #[.int .i64 W, .int .i64 R, .slice AL Lat.length cL] 24 (0, 0)) := by
    rw [hw2, hb0, Below.heap_alloc _ _ _ (by omega), hw1]
    exact heap_alloc_new w _
  have z2 : w2.heap[b0 + 1]? = some (.cells #[.slice AP P.length cP, .slice AI B.length cI, .int .i64 t0, .slice A3 t1.length c3, .slice A4 t2.length c4, .slice A5 t3.length c5, .int .i64 t4] 31 (0, 0)) := by
    rw [hw2]
    have := heap_alloc_new w1 (.cells #[.slice AP P.length cP, .slice AI B.length cI, .int .i64 t0, .slice A3 t1.length c3, .slice A4 t2.length c4, .slice A5 t3.length c5, .int .i64 t4] 31 (0, 0))
    rw [hs1, ← hb0] at this
    exact this
  have hX := Aside0.mk (And.intro h (And.intro hB (And.intro hS (And.intro B2 (And.intro z1 (And.intro z2 hb0))))))
  have a0 := cell_at z1 (j := 0) rfl
  have a1 := cell_at z1 (j := 1) rfl
  have a2 := cell_at z1 (j := 2) rfl
  have d0 := cell_at z2 (j := 0) rfl
  have d1 := cell_at z2 (j := 1) rfl
  have d2 := cell_at z2 (j := 2) rfl
  have d3 := cell_at z2 (j := 3) rfl
  have d4 := cell_at z2 (j := 4) rfl
  have d5 := cell_at z2 (j := 5) rfl
  have d6 := cell_at z2 (j := 6) rfl
  clear h hB hS B2 z1 z2 hs1
  go_enter Tryd.func26, Tryd.ntmps26
  go_upto_region 1 with (fail)
  rw [← hb0, ← hw1, ← hw2]
  clear hw1 hw2 hb0
  go_upto_region 2 with (fail)
  have H0 := Aside0.mk (Below.refl w2.heap.size w2)
  have hDep := Aside0.mk (fun (W1 : World) (h1 : Below w2.heap.size w2 W1) => deps_any ((hX.out.1.below hX.out.2.2.2.1).below h1) hX.out.2.1 t0 t4)
  have hCl := Aside0.mk (fun (w' : World) (hb : Below w2.heap.size w2 w') => (show w'.cell? ⟨b0, 0, none⟩ = some (.int .i64 W) ∧ w'.cell? ⟨b0, 1, none⟩ = some (.int .i64 R) ∧ w'.cell? ⟨b0, 2, none⟩ = some (.slice AL Lat.length cL) ∧ w'.cell? ⟨b0 + 1, 0, none⟩ = some (.slice AP P.length cP) ∧ w'.cell? ⟨b0 + 1, 1, none⟩ = some (.slice AI B.length cI) ∧ w'.cell? ⟨b0 + 1, 2, none⟩ = some (.int .i64 t0) ∧ w'.cell? ⟨b0 + 1, 3, none⟩ = some (.slice A3 t1.length c3) ∧ w'.cell? ⟨b0 + 1, 4, none⟩ = some (.slice A4 t2.length c4) ∧ w'.cell? ⟨b0 + 1, 5, none⟩ = some (.slice A5 t3.length c5) ∧ w'.cell? ⟨b0 + 1, 6, none⟩ = some (.int .i64 t4) from
    ⟨cell_at ((hb.block b0 (blk_lt' hX.out.2.2.2.2.1)).trans hX.out.2.2.2.2.1) rfl, cell_at ((hb.block b0 (blk_lt' hX.out.2.2.2.2.1)).trans hX.out.2.2.2.2.1) rfl, cell_at ((hb.block b0 (blk_lt' hX.out.2.2.2.2.1)).trans hX.out.2.2.2.2.1) rfl,
     cell_at ((hb.block (b0 + 1) (blk_lt' hX.out.2.2.2.2.2.1)).trans hX.out.2.2.2.2.2.1) rfl, cell_at ((hb.block (b0 + 1) (blk_lt' hX.out.2.2.2.2.2.1)).trans hX.out.2.2.2.2.2.1) rfl, cell_at ((hb.block (b0 + 1) (blk_lt' hX.out.2.2.2.2.2.1)).trans hX.out.2.2.2.2.2.1) rfl, cell_at ((hb.block (b0 + 1) (blk_lt' hX.out.2.2.2.2.2.1)).trans hX.out.2.2.2.2.2.1) rfl, cell_at ((hb.block (b0 + 1) (blk_lt' hX.out.2.2.2.2.2.1)).trans hX.out.2.2.2.2.2.1) rfl, cell_at ((hb.block (b0 + 1) (blk_lt' hX.out.2.2.2.2.2.1)).trans hX.out.2.2.2.2.2.1) rfl, cell_at ((hb.block (b0 + 1) (blk_lt' hX.out.2.2.2.2.2.1)).trans hX.out.2.2.2.2.2.1) rfl⟩))
  clear a0 a1 a2 d0 d1 d2 d3 d4 d5 d6
  obtain ⟨a0, a1, a2, d0, d1, d2, d3, d4, d5, d6⟩ := hCl.out w2 H0.out
  have hlen := Aside0.mk hl
  apply cut9
  · intro key
    go_region_held3 (fun w' => w'.cell? ⟨b0, 0, none⟩ = some (.int .i64 W) ∧ w'.cell? ⟨b0, 1, none⟩ = some (.int .i64 R) ∧ w'.cell? ⟨b0, 2, none⟩ = some (.slice AL Lat.length cL) ∧ w'.cell? ⟨b0 + 1, 0, none⟩ = some (.slice AP P.length cP) ∧ w'.cell? ⟨b0 + 1, 1, none⟩ = some (.slice AI B.length cI) ∧ w'.cell? ⟨b0 + 1, 2, none⟩ = some (.int .i64 t0) ∧ w'.cell? ⟨b0 + 1, 3, none⟩ = some (.slice A3 t1.length c3) ∧ w'.cell? ⟨b0 + 1, 4, none⟩ = some (.slice A4 t2.length c4) ∧ w'.cell? ⟨b0 + 1, 5, none⟩ = some (.slice A5 t3.length c5) ∧ w'.cell? ⟨b0 + 1, 6, none⟩ = some (.int .i64 t4)) (first | (refine hCl.out _ ?_; first | exact H0.out | exact below_drew H0.out | exact pw_below_drewN H0.out _) | go_keep) (first
      | ((go_at_call 18; with_reducible refine (hDep.out _ ?_).mono ?_)
         · first | exact H0.out | exact below_drew H0.out | exact pw_below_drewN H0.out _
         rintro e' w6 ⟨v, rfl, Rx, Bx⟩
         obtain ⟨AD, cD, rfl, hDg0⟩ := Dg.of Rx (depL_len B)
         clear Rx
         first | have Bc := cb1 H0.out Bx | have Bc := cb2 H0.out Bx | have Bc := cb3 H0.out Bx
         obtain ⟨dlo, dhi, hDg, hlo, hhi⟩ := dg_ex H0.out Bc.size hDg0
         clear hDg0
         try have nDH := Aside0.mk (show gH < dlo ∨ dhi ≤ gH from .inl (Nat.lt_of_lt_of_le hH.out.1.2.2.2 hlo.1))
         try have nDY := Aside0.mk (show gY < dlo ∨ dhi ≤ gY from .inl (Nat.lt_of_lt_of_le hY.out.1.2.2.2 hlo.1))
         try replace hH := Aside0.mk (And.intro (hH.out.1.below Bc) hH.out.2)
         try replace hY := Aside0.mk (And.intro (hY.out.1.below Bc) hY.out.2)
         have hD := Aside0.mk (And.intro hDg (And.intro hlo.2 hhi))
         replace H0 := Aside0.mk (bl1 H0.out Bc)
         clear hDg hlo hhi Bx Bc)
      | ((refine upon_ints (N := 19) (by rfl) (by rfl) (.tmp 18) (.tmp 18) (by rfl) B.length (by rfl) (by rfl) hlen.out ?_)
         intro gH cH w7 hG Bx hle
         first | have Bc := cb1 H0.out Bx | have Bc := cb2 H0.out Bx | have Bc := cb3 H0.out Bx
         try have nDH := Aside0.mk (show gH < dlo ∨ dhi ≤ gH from .inr (Nat.le_trans hD.out.2.2 hle))
         try have nHY := Aside0.mk (show gH ≠ gY from Nat.ne_of_gt (Nat.lt_of_lt_of_le hY.out.1.2.2.2 hle))
         try replace hD := Aside0.mk (And.intro (hD.out.1.below Bc) (And.intro hD.out.2.1 (Nat.le_trans hD.out.2.2 Bc.size)))
         try replace hY := Aside0.mk (And.intro (hY.out.1.below Bc) hY.out.2)
         have hH := Aside0.mk (And.intro hG (Nat.le_trans H0.out.size hle))
         replace H0 := Aside0.mk (bl1 H0.out Bc)
         clear hG hle Bx Bc)
      | ((refine upon_ints (N := 21) (by rfl) (by rfl) (.tmp 20) (.tmp 20) (by rfl) B.length (by rfl) (by rfl) hlen.out ?_)
         intro gY cY w8 hG Bx hle
         first | have Bc := cb1 H0.out Bx | have Bc := cb2 H0.out Bx | have Bc := cb3 H0.out Bx
         try have nDY := Aside0.mk (show gY < dlo ∨ dhi ≤ gY from .inr (Nat.le_trans hD.out.2.2 hle))
         try have nHY := Aside0.mk (show gH ≠ gY from Nat.ne_of_lt (Nat.lt_of_lt_of_le hH.out.1.2.2.2 hle))
         try replace hD := Aside0.mk (And.intro (hD.out.1.below Bc) (And.intro hD.out.2.1 (Nat.le_trans hD.out.2.2 Bc.size)))
         try replace hH := Aside0.mk (And.intro (hH.out.1.below Bc) hH.out.2)
         have hY := Aside0.mk (And.intro hG (Nat.le_trans H0.out.size hle))
         replace H0 := Aside0.mk (bl1 H0.out Bc)
         clear hG hle Bx Bc)
      | fail)
    all_goals
      obtain ⟨p, wE, e1, e2, hN⟩ := nw_mk (W := W) (R := R) (AL := AL) (cL := cL) (nL := Lat.length) (AI := AI) (cI := cI) (Below.refl _ w2) H0.out hD.out hH.out hY.out nDH.out nDY.out nHY.out
      try rw [e2]
      try rw [e1]
      replace hN := Aside0.mk hN
      clear e1 e2 H0 hD hH hY nDH nDY nHY
      rename_i hs9
      clear hs9
      try clear w6
      try clear w7
      try clear w8
      revert hN
      revert wE
      revert p
      revert cY
      revert gY
      revert cH
      revert gH
      revert dhi
      revert dlo
      revert cD
      revert AD
      exact key.out
  intro AD cD dlo dhi gH cH gY cY p wE hN
  have hI : Aside0 (Nw w2 wE p W R AL cL Lat.length AI cI B.length AD cD gH cH gY cY dlo dhi (depL B) (List.replicate B.length 0) (cyM B.length B.length) ∧ Hr (insS W Lat B) (List.replicate B.length 0) B.length (fun _ => True)) := ⟨by have := hN.out; rw [cyM_start] at this; rw [cyM_start]; exact this, Hr.start (insS W Lat B)⟩
  have hBk := Aside0.mk (hX.out.1.below hX.out.2.2.2.1)
  clear hN a0 a1 a2 d0 d1 d2 d3 d4 d5 d6 hDep H0
  have hq0 : wrap64 ((B.length : Int) - 1) = (B.length : Int) - 1 := by unfold wrap64; omega
  go_wp2_with fail
  go_loopg [7] B.length (fun q v wi => ∃ (z : Int) (T : List Int), z = (q : Int) - 1 ∧ q ≤ B.length ∧ v = .int .i64 z ∧ Aside0 (Nw w2 wi p W R AL cL Lat.length AI cI B.length AD cD gH cH gY cY dlo dhi (depL B) T (cyM B.length q) ∧ Hr (insS W Lat B) T q (fun _ => True)))
  case atStart => exact ⟨(B.length : Int) - 1, _, rfl, Nat.le_refl _, by first | rfl | go_num | (congr 1), hI⟩
  case round =>
    obtain ⟨z, T, hz, hgn, rfl, hJ⟩ := hrel
    clear hI
    by_cases hgt : 0 < gk
    · obtain ⟨k, rfl⟩ : ∃ k, gk = k + 1 := ⟨gk - 1, by omega⟩
      obtain rfl : z = (k : Int) := by omega
      clear hz hgt
      have hk : k < B.length := by omega
      have hk0 : (0 : Int) ≤ (k : Int) := by omega
      have hk1 : (k : Int) < (B.length : Int) := by omega
      have c6 := (hJ.out.1.sf hBk.out).c6
      obtain ⟨y0, y1⟩ := hJ.out.1.rY.cell k hk
      have hcur : Aside0 (Nw w2 (wr.setCell ⟨gY, k, none⟩ (.int .i64 (-1))) p W R AL cL Lat.length AI cI B.length AD cD gH cH gY cY dlo dhi (depL B) T (cyM B.length k)) := ⟨by have := hJ.out.1.setY k (-1); rw [cyM_set hk] at this; exact this⟩
      go_upto_region 7 with (fail)
      obtain ⟨w5, hw5⟩ : ∃ w5, w5 = wr.setCell ⟨gY, k, none⟩ (.int .i64 (-1)) := ⟨_, rfl⟩
      rw [← hw5] at hcur
      rw [← hw5]
      clear hw5 c6 y0 y1
      have c5 := (hcur.out.sf hBk.out).c5
      obtain ⟨v0, v1⟩ := hcur.out.rH.cell k hk
      obtain ⟨a0, a1, a2, _, d1, _, _, _, _, _⟩ := hCl.out w5 hcur.out.b
      obtain ⟨ad, A1, c1, eA, x0, _, _, _, _, _, _, _, hl1, hC1⟩ := at_T48 (hBk.out.below hcur.out.b).rI (k : Int) hk0 hk1
      subst eA
      rw [Int.toNat_natCast] at x0
      have hlt : (insS W Lat B).lt k = latI Lat (rd_T48 B (k : Int)).f0 := rfl
      obtain ⟨fk, hfk⟩ : ∃ fk, (rd_T48 B (k : Int)).f0 = fk := ⟨_, rfl⟩
      rw [hfk] at x0 hlt
      have hL := Aside0.mk (fun (W1 : World) (e1 : Below w5.heap.size w5 W1) => machine_Latency.calls W R AL cL Lat fk _ W1 (Kd.C_below (hBk.out.below hcur.out.b).rL e1) hBk.out.hL (lat_f W R Lat fk))
      obtain ⟨tk, htk⟩ : ∃ tk, rd T (k : Int) = tk := ⟨_, rfl⟩
      rw [htk] at v0
      obtain ⟨lk, hlk⟩ : ∃ lk, latI Lat fk = lk := ⟨_, rfl⟩
      rw [hlk] at hlt hL
      replace hlt := Aside0.mk (And.intro hlt htk)
      clear hl1 hC1 hfk htk hlk
      have hgs := hcur.out.n6
      have hn1 : ¬ gH = p := hcur.out.n4
      have hn2 : ¬ gH = b0 := fun e => by have := blk_lt' hX.out.2.2.2.2.1; omega
      have hn3 : ¬ gH = b0 + 1 := fun e => by have := blk_lt' hX.out.2.2.2.2.2.1; omega
      have hn4 : ¬ gH = (ad.add (k * 8)).block := fun e => by
        obtain ⟨ad', _, _, eA', x0', _⟩ := at_T48 hBk.out.rI (k : Int) hk0 hk1
        injection eA' with eA'
        subst eA'
        have := World.block_lt_of_cell? _ _ x0'
        rw [Int.toNat_natCast] at this
        omega
      clear hgs
      refine Held.begin_ (S := fun w' => w'.cell? ⟨p, 5, none⟩ = some (.slice (some ⟨gH, 0, none⟩) B.length cH) ∧ w'.cell? ⟨b0, 0, none⟩ = some (.int .i64 W) ∧ w'.cell? ⟨b0, 1, none⟩ = some (.int .i64 R) ∧ w'.cell? ⟨b0, 2, none⟩ = some (.slice AL Lat.length cL) ∧ w'.cell? ⟨b0 + 1, 1, none⟩ = some (.slice (some ad) B.length cI) ∧ w'.cell? (ad.add (k * 8)) = some (.int .i64 fk) ∧ w'.cell? ⟨gH, k, none⟩ = some (.int .i64 tk)) 22 (by kernel_rfl) (by kernel_rfl) ?_ (fun hHeld => ?_)
      · exact ⟨c5, a0, a1, a2, d1, x0, v0⟩
      simp only [List.length_cons, List.length_nil, Nat.reduceAdd, List.replicate, Array.replicate]
      refine Held.take_ (v := ?vv3113100) 0 rfl rfl (by kernel_rfl) (by kernel_rfl) (fun _ _ _ h => h) (by assumption) (Or.inl ⟨by rfl, ?hy3113100⟩) ?_
      case hy3113100 => intro w hSw; (try dsimp only at hSw); (go_simp <;> with_reducible rfl)
      try simp only [Act.put, List.setIfInBounds_toArray, List.set_cons_zero, List.set_cons_succ]
      refine Held.take_ (v := ?vv3113101) 1 rfl rfl (by kernel_rfl) (by kernel_rfl) (fun _ _ _ h => h) (by assumption) (Or.inl ⟨by rfl, ?hy3113101⟩) ?_
      case hy3113101 => intro w hSw; (try dsimp only at hSw); (go_simp <;> with_reducible rfl)
      try simp only [Act.put, List.setIfInBounds_toArray, List.set_cons_zero, List.set_cons_succ]
      refine Held.take_ (v := ?vv3113102) 2 rfl rfl (by kernel_rfl) (by kernel_rfl) (fun _ _ _ h => h) (by assumption) (Or.inl ⟨by rfl, ?hy3113102⟩) ?_
      case hy3113102 => intro w hSw; (try dsimp only at hSw); (go_simp <;> with_reducible rfl)
      try simp only [Act.put, List.setIfInBounds_toArray, List.set_cons_zero, List.set_cons_succ]
      refine Held.take_ (v := ?vv3113103) 3 rfl rfl (by kernel_rfl) (by kernel_rfl) (fun _ _ _ h => h) (by assumption) (Or.inl ⟨by rfl, ?hy3113103⟩) ?_
      case hy3113103 => intro w hSw; (try dsimp only at hSw); (go_simp <;> with_reducible rfl)
      try simp only [Act.put, List.setIfInBounds_toArray, List.set_cons_zero, List.set_cons_succ]
      refine Held.take_ (v := ?vv3113104) 4 rfl rfl (by kernel_rfl) (by kernel_rfl) (fun _ _ _ h => h) (by assumption) (Or.inl ⟨by rfl, ?hy3113104⟩) ?_
      case hy3113104 => intro w hSw; (try dsimp only at hSw); (go_simp <;> with_reducible rfl)
      try simp only [Act.put, List.setIfInBounds_toArray, List.set_cons_zero, List.set_cons_succ]
      refine Held.take_ (v := ?vv3113105) 5 rfl rfl (by kernel_rfl) (by kernel_rfl) (fun _ _ _ h => h) (by assumption) (Or.inl ⟨by rfl, ?hy3113105⟩) ?_
      case hy3113105 => intro w hSw; (try dsimp only at hSw); (go_simp <;> with_reducible rfl)
      try simp only [Act.put, List.setIfInBounds_toArray, List.set_cons_zero, List.set_cons_succ]
      refine Held.take_ (v := ?vv3113106) 6 rfl rfl (by kernel_rfl) (by kernel_rfl) (fun _ _ _ h => h) (by assumption) (Or.inl ⟨by rfl, ?hy3113106⟩) ?_
      case hy3113106 => intro w hSw; (try dsimp only at hSw); (go_simp <;> with_reducible rfl)
      try simp only [Act.put, List.setIfInBounds_toArray, List.set_cons_zero, List.set_cons_succ]
      refine Held.take_ (v := ?vv3113107) 7 rfl rfl (by kernel_rfl) (by kernel_rfl) (fun _ _ _ h => h) (by assumption) (Or.inl ⟨by rfl, ?hy3113107⟩) ?_
      case hy3113107 => intro w hSw; (try dsimp only at hSw); (go_simp <;> with_reducible rfl)
      try simp only [Act.put, List.setIfInBounds_toArray, List.set_cons_zero, List.set_cons_succ]
      refine Held.take_ (v := ?vv3113108) 8 rfl rfl (by kernel_rfl) (by kernel_rfl) (fun _ _ _ h => h) (by assumption) (Or.inl ⟨by rfl, ?hy3113108⟩) ?_
      case hy3113108 => intro w hSw; (try dsimp only at hSw); (go_simp <;> with_reducible rfl)
      try simp only [Act.put, List.setIfInBounds_toArray, List.set_cons_zero, List.set_cons_succ]
      refine Held.take_ (v := ?vv3113109) 9 rfl rfl (by kernel_rfl) (by kernel_rfl) (fun _ _ _ h => h) (by assumption) (Or.inl ⟨by rfl, ?hy3113109⟩) ?_
      case hy3113109 => intro w hSw; (try dsimp only at hSw); (go_simp <;> with_reducible rfl)
      try simp only [Act.put, List.setIfInBounds_toArray, List.set_cons_zero, List.set_cons_succ]
      refine Held.take_ (v := ?vv3113110) 10 rfl rfl (by kernel_rfl) (by kernel_rfl) (fun _ _ _ h => h) (by assumption) (Or.inl ⟨by rfl, ?hy3113110⟩) ?_
      case hy3113110 => intro w hSw; (try dsimp only at hSw); (go_simp <;> with_reducible rfl)
      try simp only [Act.put, List.setIfInBounds_toArray, List.set_cons_zero, List.set_cons_succ]
      refine Held.take_ (v := ?vv3113111) 11 rfl rfl (by kernel_rfl) (by kernel_rfl) (fun _ _ _ h => h) (by assumption) (Or.inl ⟨by rfl, ?hy3113111⟩) ?_
      case hy3113111 => intro w hSw; (try dsimp only at hSw); (go_simp <;> with_reducible rfl)
      try simp only [Act.put, List.setIfInBounds_toArray, List.set_cons_zero, List.set_cons_succ]
      refine Held.take_ (v := ?vv3113112) 12 rfl rfl (by kernel_rfl) (by kernel_rfl) (fun _ _ _ h => h) (by assumption) (Or.inl ⟨by rfl, ?hy3113112⟩) ?_
      case hy3113112 => intro w hSw; (try dsimp only at hSw); (go_simp <;> with_reducible rfl)
      try simp only [Act.put, List.setIfInBounds_toArray, List.set_cons_zero, List.set_cons_succ]
      refine Held.take_ (v := ?vv3113113) 13 rfl rfl (by kernel_rfl) (by kernel_rfl) (fun _ _ _ h => h) (by assumption) (Or.inl ⟨by rfl, ?hy3113113⟩) ?_
      case hy3113113 => intro w hSw; (try dsimp only at hSw); (go_simp <;> with_reducible rfl)
      try simp only [Act.put, List.setIfInBounds_toArray, List.set_cons_zero, List.set_cons_succ]
      refine Held.take_ (v := ?vv3113114) 14 rfl rfl (by kernel_rfl) (by kernel_rfl) (fun _ _ _ h => h) (by assumption) (Or.inl ⟨by rfl, ?hy3113114⟩) ?_
      case hy3113114 => intro w hSw; (try dsimp only at hSw); (go_simp <;> with_reducible rfl)
      try simp only [Act.put, List.setIfInBounds_toArray, List.set_cons_zero, List.set_cons_succ]
      refine Held.take_ (v := ?vv3113115) 15 rfl rfl (by kernel_rfl) (by kernel_rfl) (fun _ _ _ h => h) (by assumption) (Or.inl ⟨by rfl, ?hy3113115⟩) ?_
      case hy3113115 => intro w hSw; (try dsimp only at hSw); (go_simp <;> with_reducible rfl)
      try simp only [Act.put, List.setIfInBounds_toArray, List.set_cons_zero, List.set_cons_succ]
      refine Held.take_ (v := ?vv3113116) 16 rfl rfl (by kernel_rfl) (by kernel_rfl) (fun _ _ _ h => h) (by assumption) (Or.inl ⟨by rfl, ?hy3113116⟩) ?_
      case hy3113116 => intro w hSw; (try dsimp only at hSw); (go_simp <;> with_reducible rfl)
      try simp only [Act.put, List.setIfInBounds_toArray, List.set_cons_zero, List.set_cons_succ]
      refine Held.take_ (v := ?vv3113117) 17 rfl rfl (by kernel_rfl) (by kernel_rfl) (fun _ _ _ h => h) (by assumption) (Or.inl ⟨by rfl, ?hy3113117⟩) ?_
      case hy3113117 => intro w hSw; (try dsimp only at hSw); (go_simp <;> with_reducible rfl)
      try simp only [Act.put, List.setIfInBounds_toArray, List.set_cons_zero, List.set_cons_succ]
      refine Held.take_ (v := ?vv3113118) 18 rfl rfl (by kernel_rfl) (by kernel_rfl) (fun _ _ _ h => h) (by assumption) (Or.inl ⟨by rfl, ?hy3113118⟩) ?_
      case hy3113118 => intro w hSw; (try dsimp only at hSw); (go_simp <;> with_reducible rfl)
      try simp only [Act.put, List.setIfInBounds_toArray, List.set_cons_zero, List.set_cons_succ]
      refine Held.step_ 19 rfl rfl (by kernel_rfl) (fun K hK => ?_)
      go_simp
      go_at_call 20
      with_reducible refine (hL.out _ (below_drew (Below.refl _ _))).mono ?_
      rintro e' w6 ⟨rfl, Bx0⟩
      have Bx : Below w5.heap.size w5 w6 := (below_drew (Below.refl _ w5)).trans Bx0
      clear Bx0
      have f1 : w6.cell? ⟨p, 5, none⟩ = some (.slice (some ⟨gH, 0, none⟩) B.length cH) ∧ w6.cell? ⟨b0, 0, none⟩ = some (.int .i64 W) ∧ w6.cell? ⟨b0, 1, none⟩ = some (.int .i64 R) ∧ w6.cell? ⟨b0, 2, none⟩ = some (.slice AL Lat.length cL) ∧ w6.cell? ⟨b0 + 1, 1, none⟩ = some (.slice (some ad) B.length cI) ∧ w6.cell? (ad.add (k * 8)) = some (.int .i64 fk) ∧ w6.cell? ⟨gH, k, none⟩ = some (.int .i64 tk) :=
        ⟨(Below.cell Bx (World.block_lt_of_cell? _ _ c5)).trans c5, (Below.cell Bx (World.block_lt_of_cell? _ _ a0)).trans a0, (Below.cell Bx (World.block_lt_of_cell? _ _ a1)).trans a1, (Below.cell Bx (World.block_lt_of_cell? _ _ a2)).trans a2, (Below.cell Bx (World.block_lt_of_cell? _ _ d1)).trans d1, (Below.cell Bx (World.block_lt_of_cell? _ _ x0)).trans x0, (Below.cell Bx (World.block_lt_of_cell? _ _ v0)).trans v0⟩
      have hcur6 := Aside0.mk (hcur.out.below Bx)
      have z1 : w6.frozen? ⟨gH, k, none⟩ = false := (hcur6.out.rH.cell k hk).2
      have v6 := f1.2.2.2.2.2.2
      clear Bx
      go_wp2_with fail
      refine hK.out _ _ f1 (fun hHeld2 => ?_)
      clear hK K
      try simp only [Act.put, List.setIfInBounds_toArray, List.set_cons_zero, List.set_cons_succ]
      refine Held.step_ 20 rfl rfl (by kernel_rfl) (fun K hK => ?_)
      go_simp
      refine hK.out _ _ f1 (fun hHeld3 => ?_)
      clear hK K
      try simp only [Act.put, List.setIfInBounds_toArray, List.set_cons_zero, List.set_cons_succ]
      refine Held.take_ (v := ?vv3295721) 21 rfl rfl (by kernel_rfl) (by kernel_rfl) (fun _ _ _ h => h) (by assumption) (Or.inl ⟨by rfl, ?hy3295721⟩) ?_
      case hy3295721 => intro w hSw; (try dsimp only at hSw); (go_simp <;> with_reducible rfl)
      try simp only [Act.put, List.setIfInBounds_toArray, List.set_cons_zero, List.set_cons_succ]
      refine Held.rest_ (by kernel_rfl) ?_
      simp only [List.drop_succ_cons, List.drop_zero]
      clear f1 hHeld hHeld2 hHeld3
      go_upto_region 8 with (fail)
      obtain ⟨x, w7, e1, e2, hN7, hR⟩ := nw_max hX.out.2.2.1 hJ.out.2 hk hcur6.out tk lk hlt.out.1 hlt.out.2
      rw [e1, e2]
      clear e1 e2 hcur6 z1 v6 hlt hcur hL hJ v0 c5 a0 a1 a2 d1 x0 hn1 hn2 hn3 hn4
      clear w6
      obtain ⟨T7, hT7⟩ : ∃ T7, T.set k x = T7 := ⟨_, rfl⟩
      rw [hT7] at hN7 hR
      clear hT7
      obtain ⟨gD, eD, hgD⟩ := dg_form hN7.rD (by omega)
      subst eD
      have c4 := (hN7.sf hBk.out).c4
      obtain ⟨ad2, A1, c1, eA, x0, hl1, hC1⟩ := at_L1 (hN7.sf hBk.out).D (k : Int) hk0 hk1
      injection eA with eA
      subst eA
      rw [rdL_dep hk] at x0 hl1 hC1
      rw [Int.toNat_natCast, addz] at x0
      have hrl := depP_len B k k
      have hmem : ∀ y ∈ depP B k k, ∃ i : Nat, y = (i : Int) ∧ i < k ∧ (insS W Lat B).D k i = true := fun y hy => by
        obtain ⟨i, h1, h2, h3⟩ := mem_depP.1 hy
        exact ⟨i, h1, h2, h3⟩
      have hall : ∀ i : Nat, i < k → (insS W Lat B).D k i = true → (i : Int) ∈ depP B k k := fun i h1 h2 => mem_depP.2 ⟨i, rfl, h1, h2⟩
      have hrdl := rdL_dep hk
      obtain ⟨row, hrow⟩ : ∃ row, depP B k k = row := ⟨_, rfl⟩
      rw [hrow] at x0 hl1 hC1 hrl hmem hall hrdl
      have hRow := Aside0.mk (And.intro hmem (And.intro hall (And.intro hgD (And.intro x0 hrdl))))
      have hrl2 : row.length ≤ 60 := by omega
      have hM : Aside0 (Nw w2 w7 p W R AL cL Lat.length (some ad) cI B.length (some ⟨gD, 0, none⟩) cD gH cH gY cY dlo dhi (depL B) T7 (cyM B.length k) ∧ Kp (fun q => q = gH) w7 w7 ∧ Hr (insS W Lat B) T7 k (fun i => ∃ (j' : Nat) (hj : j' < row.length), j' < 0 ∧ row[j'] = (i : Int))) :=
        ⟨hN7, Kp.refl _ _, hR.hp, hR.ze, hR.po, fun i q h1 h2 h3 h4 h5 h6 => hR.up i q h1 h2 h3 h4 (fun e => by obtain ⟨_, _, h, _⟩ := h5 e; omega) h6⟩
      clear hmem hall hgD hrow hN7 hR hrl hC1 hl1 hrdl
      go_wp2_with fail
      clear c4 x0
      go_loopg [66] row.length (fun q v wi => ∃ (j : Nat) (U : List Int), j + q = row.length ∧ v = .int .i64 (j : Int) ∧ Aside0 (Nw w2 wi p W R AL cL Lat.length (some ad) cI B.length (some ⟨gD, 0, none⟩) cD gH cH gY cY dlo dhi (depL B) U (cyM B.length k) ∧ Kp (fun q => q = gH) w7 wi ∧ Hr (insS W Lat B) U k (fun i => ∃ (j' : Nat) (hj : j' < row.length), j' < j ∧ row[j'] = (i : Int))))
      case atStart => exact ⟨0, T7, by omega, rfl, hM⟩
      case round =>
        obtain ⟨j, U, hj, rfl, hG⟩ := hrel
        clear hM
        by_cases hltj : j < row.length
        · have hlti : (j : Int) < row.length := by omega
          obtain ⟨gk1, rfl⟩ : ∃ q, gk = q + 1 := ⟨gk - 1, by omega⟩
          have hj1 : j + 1 + gk1 = row.length := by omega
          have hgk : gk1 < gk1 + 1 := by omega
          obtain ⟨i, hri, hik, hid⟩ := hRow.out.1 row[j] (List.getElem_mem hltj)
          have x0' : wr.cell? ⟨gD, k, none⟩ = some (.slice A1 row.length c1) := (cell_blk (hG.out.2.1.block hRow.out.2.2.1.2.2 (fun e => by have e : gD = gH := e; have h1 := hG.out.1.n1; have h2 := hRow.out.2.2.1; omega))).trans hRow.out.2.2.2.1
          obtain ⟨ad3, A2, c2, eA, x1, hl1, hC1⟩ := at_L1 (hG.out.1.sf hBk.out).D (k : Int) hk0 hk1
          injection eA with eA
          subst eA
          rw [hRow.out.2.2.2.2] at x1 hC1
          rw [Int.toNat_natCast, addz] at x1
          have eS := x0'.symm.trans x1
          simp only [Option.some.injEq, Value.slice.injEq] at eS
          obtain ⟨eS1, _, eS2⟩ := eS
          subst eS1
          subst eS2
          obtain ⟨aR, eA, b1⟩ := Kd.at_int hC1 (j : Int) (by omega) hlti
          subst eA
          rw [rd_get row j hltj, hri, Int.toNat_natCast] at b1
          clear x0' x1 hl1 hC1
          have c5 := (hG.out.1.sf hBk.out).c5
          obtain ⟨v0, v1⟩ := hG.out.1.rH.cell i (by omega)
          obtain ⟨v2, _⟩ := hG.out.1.rH.cell k hk
          have hb1 := hG.out.2.2.bd hX.out.2.2.1 i (show i < B.length by omega)
          have hb2 := hG.out.2.2.bd hX.out.2.2.1 k hk
          have hb3 := hX.out.2.2.1.dl1 i k
          have hi0 : (0 : Int) ≤ (i : Int) := by omega
          have hi1 : (i : Int) < (B.length : Int) := by omega
          have hcall := Aside0.mk (fun (W1 : World) (e1 : Below wr.heap.size wr W1) => delay_any ((hG.out.1.below e1).sf hBk.out) hX.out.2.1 i k (by omega) hk)
          obtain ⟨ti, hti⟩ : ∃ x, rd U (i : Int) = x := ⟨_, rfl⟩
          obtain ⟨tk, htk⟩ : ∃ x, rd U (k : Int) = x := ⟨_, rfl⟩
          obtain ⟨d, hd⟩ : ∃ x, (insS W Lat B).dl i k = x := ⟨_, rfl⟩
          rw [hti] at v0 hb1
          rw [htk] at v2 hb2
          rw [hd] at hcall hb3
          have hw : IntKind.i64.wrap (d + tk) = d + tk := (IntKind.wrap_i64 _).trans (by omega)
          obtain ⟨sm, hsm⟩ : ∃ x, d + tk = x := ⟨_, rfl⟩
          have hn1 : ¬ gH = p := hG.out.1.n4
          have hFa := Aside0.mk (And.intro hri (And.intro hti (And.intro htk (And.intro hd (And.intro hsm (And.intro hw (And.intro hik hid)))))))
          clear hri hti htk hd hsm hid hw hb1 hb2 hb3
          go_upto_region 11 with (fail)
          refine Held.begin_ (S := fun W1 => W1.cell? ⟨p, 5, none⟩ = some (.slice (some ⟨gH, 0, none⟩) B.length cH) ∧ W1.cell? ⟨gH, i, none⟩ = some (.int .i64 ti) ∧ W1.cell? ⟨gH, k, none⟩ = some (.int .i64 tk)) 26 (by kernel_rfl) (by kernel_rfl) ?_ (fun hHeld => ?_)
          · exact ⟨c5, v0, v2⟩
          simp only [List.length_cons, List.length_nil, Nat.reduceAdd, List.replicate, Array.replicate]
          refine Held.take_ (v := ?vv3842700) 0 rfl rfl (by kernel_rfl) (by kernel_rfl) (fun _ _ _ h => h) (by assumption) (Or.inl ⟨by rfl, ?hy3842700⟩) ?_
          case hy3842700 => intro w hSw; (try dsimp only at hSw); (go_simp <;> with_reducible rfl)
          try simp only [Act.put, List.setIfInBounds_toArray, List.set_cons_zero, List.set_cons_succ]
          refine Held.take_ (v := ?vv3842701) 1 rfl rfl (by kernel_rfl) (by kernel_rfl) (fun _ _ _ h => h) (by assumption) (Or.inl ⟨by rfl, ?hy3842701⟩) ?_
          case hy3842701 => intro w hSw; (try dsimp only at hSw); (go_simp <;> with_reducible rfl)
          try simp only [Act.put, List.setIfInBounds_toArray, List.set_cons_zero, List.set_cons_succ]
          refine Held.take_ (v := ?vv3842702) 2 rfl rfl (by kernel_rfl) (by kernel_rfl) (fun _ _ _ h => h) (by assumption) (Or.inl ⟨by rfl, ?hy3842702⟩) ?_
          case hy3842702 => intro w hSw; (try dsimp only at hSw); (go_simp <;> with_reducible rfl)
          try simp only [Act.put, List.setIfInBounds_toArray, List.set_cons_zero, List.set_cons_succ]
          refine Held.take_ (v := ?vv3842703) 3 rfl rfl (by kernel_rfl) (by kernel_rfl) (fun _ _ _ h => h) (by assumption) (Or.inl ⟨by rfl, ?hy3842703⟩) ?_
          case hy3842703 => intro w hSw; (try dsimp only at hSw); (go_simp <;> with_reducible rfl)
          try simp only [Act.put, List.setIfInBounds_toArray, List.set_cons_zero, List.set_cons_succ]
          refine Held.take_ (v := ?vv3842704) 4 rfl rfl (by kernel_rfl) (by kernel_rfl) (fun _ _ _ h => h) (by assumption) (Or.inl ⟨by rfl, ?hy3842704⟩) ?_
          case hy3842704 => intro w hSw; (try dsimp only at hSw); (go_simp <;> with_reducible rfl)
          try simp only [Act.put, List.setIfInBounds_toArray, List.set_cons_zero, List.set_cons_succ]
          refine Held.take_ (v := ?vv3842705) 5 rfl rfl (by kernel_rfl) (by kernel_rfl) (fun _ _ _ h => h) (by assumption) (Or.inl ⟨by rfl, ?hy3842705⟩) ?_
          case hy3842705 => intro w hSw; (try dsimp only at hSw); (go_simp <;> with_reducible rfl)
          try simp only [Act.put, List.setIfInBounds_toArray, List.set_cons_zero, List.set_cons_succ]
          refine Held.take_ (v := ?vv3842706) 6 rfl rfl (by kernel_rfl) (by kernel_rfl) (fun _ _ _ h => h) (by assumption) (Or.inl ⟨by rfl, ?hy3842706⟩) ?_
          case hy3842706 => intro w hSw; (try dsimp only at hSw); (go_simp <;> with_reducible rfl)
          try simp only [Act.put, List.setIfInBounds_toArray, List.set_cons_zero, List.set_cons_succ]
          refine Held.take_ (v := ?vv3842707) 7 rfl rfl (by kernel_rfl) (by kernel_rfl) (fun _ _ _ h => h) (by assumption) (Or.inl ⟨by rfl, ?hy3842707⟩) ?_
          case hy3842707 => intro w hSw; (try dsimp only at hSw); (go_simp <;> with_reducible rfl)
          try simp only [Act.put, List.setIfInBounds_toArray, List.set_cons_zero, List.set_cons_succ]
          refine Held.take_ (v := ?vv3842708) 8 rfl rfl (by kernel_rfl) (by kernel_rfl) (fun _ _ _ h => h) (by assumption) (Or.inl ⟨by rfl, ?hy3842708⟩) ?_
          case hy3842708 => intro w hSw; (try dsimp only at hSw); (go_simp <;> with_reducible rfl)
          try simp only [Act.put, List.setIfInBounds_toArray, List.set_cons_zero, List.set_cons_succ]
          refine Held.take_ (v := ?vv3842709) 9 rfl rfl (by kernel_rfl) (by kernel_rfl) (fun _ _ _ h => h) (by assumption) (Or.inl ⟨by rfl, ?hy3842709⟩) ?_
          case hy3842709 => intro w hSw; (try dsimp only at hSw); (go_simp <;> with_reducible rfl)
          try simp only [Act.put, List.setIfInBounds_toArray, List.set_cons_zero, List.set_cons_succ]
          refine Held.take_ (v := ?vv3842710) 10 rfl rfl (by kernel_rfl) (by kernel_rfl) (fun _ _ _ h => h) (by assumption) (Or.inl ⟨by rfl, ?hy3842710⟩) ?_
          case hy3842710 => intro w hSw; (try dsimp only at hSw); (go_simp <;> with_reducible rfl)
          try simp only [Act.put, List.setIfInBounds_toArray, List.set_cons_zero, List.set_cons_succ]
          refine Held.take_ (v := ?vv3842711) 11 rfl rfl (by kernel_rfl) (by kernel_rfl) (fun _ _ _ h => h) (by assumption) (Or.inl ⟨by rfl, ?hy3842711⟩) ?_
          case hy3842711 => intro w hSw; (try dsimp only at hSw); (go_simp <;> with_reducible rfl)
          try simp only [Act.put, List.setIfInBounds_toArray, List.set_cons_zero, List.set_cons_succ]
          refine Held.take_ (v := ?vv3842712) 12 rfl rfl (by kernel_rfl) (by kernel_rfl) (fun _ _ _ h => h) (by assumption) (Or.inl ⟨by rfl, ?hy3842712⟩) ?_
          case hy3842712 => intro w hSw; (try dsimp only at hSw); (go_simp <;> with_reducible rfl)
          try simp only [Act.put, List.setIfInBounds_toArray, List.set_cons_zero, List.set_cons_succ]
          refine Held.take_ (v := ?vv3842713) 13 rfl rfl (by kernel_rfl) (by kernel_rfl) (fun _ _ _ h => h) (by assumption) (Or.inl ⟨by rfl, ?hy3842713⟩) ?_
          case hy3842713 => intro w hSw; (try dsimp only at hSw); (go_simp <;> with_reducible rfl)
          try simp only [Act.put, List.setIfInBounds_toArray, List.set_cons_zero, List.set_cons_succ]
          refine Held.take_ (v := ?vv3842714) 14 rfl rfl (by kernel_rfl) (by kernel_rfl) (fun _ _ _ h => h) (by assumption) (Or.inl ⟨by rfl, ?hy3842714⟩) ?_
          case hy3842714 => intro w hSw; (try dsimp only at hSw); (go_simp <;> with_reducible rfl)
          try simp only [Act.put, List.setIfInBounds_toArray, List.set_cons_zero, List.set_cons_succ]
          refine Held.take_ (v := ?vv3842716) 16 rfl rfl (by kernel_rfl) (by kernel_rfl) (fun _ _ _ h => h) (by assumption) (Or.inl ⟨by rfl, ?hy3842716⟩) ?_
          case hy3842716 => intro w hSw; (try dsimp only at hSw); (go_simp <;> with_reducible rfl)
          try simp only [Act.put, List.setIfInBounds_toArray, List.set_cons_zero, List.set_cons_succ]
          refine Held.take_ (v := ?vv3842717) 17 rfl rfl (by kernel_rfl) (by kernel_rfl) (fun _ _ _ h => h) (by assumption) (Or.inl ⟨by rfl, ?hy3842717⟩) ?_
          case hy3842717 => intro w hSw; (try dsimp only at hSw); (go_simp <;> with_reducible rfl)
          try simp only [Act.put, List.setIfInBounds_toArray, List.set_cons_zero, List.set_cons_succ]
          refine Held.take_ (v := ?vv3842718) 18 rfl rfl (by kernel_rfl) (by kernel_rfl) (fun _ _ _ h => h) (by assumption) (Or.inl ⟨by rfl, ?hy3842718⟩) ?_
          case hy3842718 => intro w hSw; (try dsimp only at hSw); (go_simp <;> with_reducible rfl)
          try simp only [Act.put, List.setIfInBounds_toArray, List.set_cons_zero, List.set_cons_succ]
          refine Held.take_ (v := ?vv3842719) 19 rfl rfl (by kernel_rfl) (by kernel_rfl) (fun _ _ _ h => h) (by assumption) (Or.inl ⟨by rfl, ?hy3842719⟩) ?_
          case hy3842719 => intro w hSw; (try dsimp only at hSw); (go_simp <;> with_reducible rfl)
          try simp only [Act.put, List.setIfInBounds_toArray, List.set_cons_zero, List.set_cons_succ]
          refine Held.take_ (v := ?vv3842720) 20 rfl rfl (by kernel_rfl) (by kernel_rfl) (fun _ _ _ h => h) (by assumption) (Or.inl ⟨by rfl, ?hy3842720⟩) ?_
          case hy3842720 => intro w hSw; (try dsimp only at hSw); (go_simp <;> with_reducible rfl)
          try simp only [Act.put, List.setIfInBounds_toArray, List.set_cons_zero, List.set_cons_succ]
          refine Held.take_ (v := ?vv3842721) 21 rfl rfl (by kernel_rfl) (by kernel_rfl) (fun _ _ _ h => h) (by assumption) (Or.inl ⟨by rfl, ?hy3842721⟩) ?_
          case hy3842721 => intro w hSw; (try dsimp only at hSw); (go_simp <;> with_reducible rfl)
          try simp only [Act.put, List.setIfInBounds_toArray, List.set_cons_zero, List.set_cons_succ]
          refine Held.take_ (v := ?vv3842722) 22 rfl rfl (by kernel_rfl) (by kernel_rfl) (fun _ _ _ h => h) (by assumption) (Or.inl ⟨by rfl, ?hy3842722⟩) ?_
          case hy3842722 => intro w hSw; (try dsimp only at hSw); (go_simp <;> with_reducible rfl)
          try simp only [Act.put, List.setIfInBounds_toArray, List.set_cons_zero, List.set_cons_succ]
          refine Held.step_ 15 rfl rfl (by kernel_rfl) (fun K hK => ?_)
          go_simp
          go_at_call 39
          with_reducible refine (hcall.out _ (below_drew (Below.refl _ _))).mono ?_
          rintro e' w6 ⟨rfl, Bx0⟩
          have Bx : Below wr.heap.size wr w6 := (below_drew (Below.refl _ wr)).trans Bx0
          clear Bx0
          have f1 : w6.cell? ⟨p, 5, none⟩ = some (.slice (some ⟨gH, 0, none⟩) B.length cH) ∧ w6.cell? ⟨gH, i, none⟩ = some (.int .i64 ti) ∧ w6.cell? ⟨gH, k, none⟩ = some (.int .i64 tk) :=
            ⟨(Below.cell Bx (World.block_lt_of_cell? _ _ c5)).trans c5, (Below.cell Bx (World.block_lt_of_cell? _ _ v0)).trans v0, (Below.cell Bx (World.block_lt_of_cell? _ _ v2)).trans v2⟩
          have v6 := f1.2.1
          have hcur6 := Aside0.mk (And.intro (hG.out.1.below Bx) (hG.out.2.1.then_ (Kp.of_below Bx (fun _ => False)) (fun _ h => h.elim)))
          have z1 : w6.frozen? ⟨gH, i, none⟩ = false := (hcur6.out.1.rH.cell i (by omega)).2
          clear Bx
          go_wp2_with fail
          refine hK.out _ _ f1 (fun hHeld2 => ?_)
          clear hK K
          try simp only [Act.put, List.setIfInBounds_toArray, List.set_cons_zero, List.set_cons_succ]
          refine Held.take_ (v := ?vv3973423) 23 rfl rfl (by kernel_rfl) (by kernel_rfl) (fun _ _ _ h => h) (by assumption) (Or.inl ⟨by rfl, ?hy3973423⟩) ?_
          case hy3973423 => intro w hSw; (try dsimp only at hSw); (go_simp <;> with_reducible rfl)
          try simp only [Act.put, List.setIfInBounds_toArray, List.set_cons_zero, List.set_cons_succ]
          refine Held.step_ 24 rfl rfl (by kernel_rfl) (fun K hK => ?_)
          go_simp
          refine hK.out _ _ f1 (fun hHeld3 => ?_)
          clear hK K
          try simp only [Act.put, List.setIfInBounds_toArray, List.set_cons_zero, List.set_cons_succ]
          refine Held.take_ (v := ?vv4001825) 25 rfl rfl (by kernel_rfl) (by kernel_rfl) (fun _ _ _ h => h) (by assumption) (Or.inl ⟨by rfl, ?hy4001825⟩) ?_
          case hy4001825 => intro w hSw; (try dsimp only at hSw); (go_simp <;> with_reducible rfl)
          try simp only [Act.put, List.setIfInBounds_toArray, List.set_cons_zero, List.set_cons_succ]
          refine Held.rest_ (by kernel_rfl) ?_
          simp only [List.drop_succ_cons, List.drop_zero]
          clear f1 hHeld hHeld2 hHeld3
          go_upto_region 12 with (fail)
          rw [hFa.out.2.2.2.2.2.1, show wrap64 (d + tk) = d + tk from (by have h9 := hFa.out.2.2.2.2.2.1; rw [IntKind.wrap_i64] at h9; unfold wrap64; exact h9), hFa.out.2.2.2.2.1]
          obtain ⟨x, w8, e1, e2, hN8, hK8, hR8⟩ := nw_max2 (fun a => ∃ (j' : Nat) (hj : j' < row.length), j' < j + 1 ∧ row[j'] = (a : Int)) hG.out.2.2 hk hFa.out.2.2.2.2.2.2.1 hFa.out.2.2.2.2.2.2.2 (fun a ha => by
            obtain ⟨j', hj', h1, h2⟩ := ha
            by_cases e : j' = j
            · subst e
              right
              have := hFa.out.1
              omega
            · exact .inl ⟨j', hj', by omega, h2⟩) hcur6.out.1 hcur6.out.2 ti tk d sm hFa.out.2.2.2.1 hFa.out.2.2.1 hFa.out.2.1 hFa.out.2.2.2.2.1
          rw [e1, e2]
          replace hN8 := Aside0.mk (And.intro hN8 (And.intro hK8 hR8))
          clear e1 e2 hK8 hR8 v6 hcur6 z1
          clear w6
          clear hG hRow hcall c5 v0 v1 v2 b1 hFa hn1
          go_wp2_with fail
          go_roundg gk1
          case rel => exact ⟨j + 1, U.set i x, hj1, by go_num, hN8⟩
          case measure => exact hgk
        · have hRd := hG.out.2.2.done (fun i h1 h2 => by
            obtain ⟨j', hj', e⟩ := List.getElem_of_mem (hRow.out.2.1 i h1 h2)
            exact ⟨j', hj', by omega, e⟩)
          have hI1 : Aside0 (Nw w2 wr p W R AL cL Lat.length (some ad) cI B.length (some ⟨gD, 0, none⟩) cD gH cH gY cY dlo dhi (depL B) U (cyM B.length k) ∧ Hr (insS W Lat B) U k (fun _ => True)) := ⟨hG.out.1, hRd⟩
          clear hG hRd hRow
          go_wp2_with fail
          go_roundg k
          case rel => exact ⟨(k : Int) - 1, U, rfl, by omega, by first | rfl | go_num | (congr 1), hI1⟩
          case measure => exact Nat.lt_succ_self k
    · obtain rfl : gk = 0 := by omega
      have hE := Aside0.mk (nw_end hX.out.2.2.2.1 hBk.out hJ.out.1 hJ.out.2.hp)
      clear hJ hCl hBk hX
      go_wp2
      go_ret
      exact hE.out
end
end Go.Proofs.YtjacphcbiaacnaaDoor
end

section
/- Block. -/
set_option linter.unusedVariables false
set_option linter.unusedSimpArgs false
set_option linter.unusedSectionVars false
namespace Go.Proofs.YtjacphcbiaacnaaDoor
open Go.RowKit Go.Proofs.YtjacphcbiaacnaaDoorW.PrintWords Go.Proofs.YtjacphcbiaacnaaDoor.PDigraphTells Mem Sc
section
variable {w w' : World} {W R : Int} {AL : Option Addr} {cL : Nat} {Lat : List Int} {AP : Option Addr} {cP : Nat} {P : List Int} {AI : Option Addr} {cI : Nat} {B : List S48} {A3 : Option Addr} {c3 : Nat} {t1 : List Int} {A4 : Option Addr} {c4 : Nat} {t2 : List Int} {A5 : Option Addr} {c5 : Nat} {t3 : List S98} {t0 t4 : Int}
/-- What Block hands back. -/
def BS (w : World) (W R : Int) (Lat : List Int) (B : List S48) (e : Ending) (w' : World) : Prop :=
 ∃ vo vy o y, e = .returned (.tuple #[vo, vy]) ∧ IsB W R Lat B o y ∧ Kd.R (Kd.int .i64) 3 w' 0 (fun k => w.heap.size ≤ k) vo o ∧ Kd.R (Kd.int .i64) 3 w' 0 (fun k => w.heap.size ≤ k) vy y ∧ Below w.heap.size w w'
theorem run_ns (h0 : 0 < w.heap.size) (hDN : ∀ W1 : World, Below w.heap.size w W1 → DN W1) (hB : sml B) (hv : validB W R Lat = true) {e : Ending} {w1 : World} (h : NS w W R AL cL Lat AI cI B e w1) :
  ∃ p, e = .returned (.pointer (some ⟨p, 0, none⟩)) ∧ Below w.heap.size w w1 ∧ Calls Tryd.prog 27 #[.pointer (some ⟨p, 0, none⟩)] w1 (BS w W R Lat B) := by
 obtain ⟨p, AD, cD, AH, cH, T, AY, cY, rfl, hT, hs, hb, hx⟩ := h
 refine ⟨p, rfl, hb, ?_⟩
 have hok := insS_ok hv hB.len
 have hW := (validB_iff hv).2.1
 by_cases hn : B.length = 0
 ·refine (run_zero hs hn).mono ?_
  rintro e w2 ⟨rfl, B2⟩
  refine ⟨_, _, [], [], rfl, .inr ⟨hv, T, st0, ⟨hT, ⟨0, by omega, rfl⟩, ?_⟩, rfl, rfl⟩, Kd.R_nil _ _ _ _ _, Kd.R_nil _ _ _ _ _, hb.trans (B2.mono hb.size)⟩
  show 0 = B.length
  exact hn.symm
 ·obtain ⟨gc, rfl, h1, h2, hR, hf⟩ := hx (by omega)
  refine (run_main hf hR hB hok ⟨by omega, hW.2⟩ hT (hDN _ hb) ⟨by omega, h2⟩).mono ?_
  rintro e w2 ⟨vo, vy, s, rfl, hF, r1, r2, hK⟩
  exact ⟨vo, vy, oL s, s.y, rfl, .inr ⟨hv, T, s, hF, rfl, rfl⟩, Kd.R_mono r1 (fun k hk => Nat.le_trans hb.size hk), Kd.R_mono r2 (fun k hk => Nat.le_trans hb.size hk), ((Kp.of_below hb (fun _ => False)).then_ hK (fun k e => .inr (by rw [e]; exact h1))).none_below⟩
theorem two_cells {w2 : World} (hw2 : (w.alloc (.cells #[.int .i64 W, .int .i64 R, .slice AL Lat.length cL] 24 (0, 0))).alloc (.cells #[.slice AP P.length cP, .slice AI B.length cI, .int .i64 t0, .slice A3 t1.length c3, .slice A4 t2.length c4, .slice A5 t3.length c5, .int .i64 t4] 31 (0, 0)) = w2) {b0 : Nat} (hb0 : w.heap.size = b0) : Below w.heap.size w w2 ∧ ∀ w', Below w2.heap.size w2 w' → w'.cell? ⟨b0, 0, none⟩ = some (.int .i64 W) ∧ w'.cell? ⟨b0, 1, none⟩ = some (.int .i64 R) ∧ w'.cell? ⟨b0, 2, none⟩ = some (.slice AL Lat.length cL) ∧ w'.cell? ⟨b0 + 1, 0, none⟩ = some (.slice AP P.length cP) ∧ w'.cell? ⟨b0 + 1, 1, none⟩ = some (.slice AI B.length cI) ∧ w'.cell? ⟨b0 + 1, 2, none⟩ = some (.int .i64 t0) ∧ w'.cell? ⟨b0 + 1, 3, none⟩ = some (.slice A3 t1.length c3) ∧ w'.cell? ⟨b0 + 1, 4, none⟩ = some (.slice A4 t2.length c4) ∧ w'.cell? ⟨b0 + 1, 5, none⟩ = some (.slice A5 t3.length c5) ∧ w'.cell? ⟨b0 + 1, 6, none⟩ = some (.int .i64 t4) := by
 have z1 : w2.heap[b0]? = some (.cells #[.int .i64 W, .int .i64 R, .slice AL Lat.length cL] 24 (0, 0)) := by
  rw [← hw2, ← hb0, Below.heap_alloc _ _ _ (by simp)]
  exact heap_alloc_new w _
 have z2 : w2.heap[b0 + 1]? = some (.cells #[.slice AP P.length cP, .slice AI B.length cI, .int .i64 t0, .slice A3 t1.length c3, .slice A4 t2.length c4, .slice A5 t3.length c5, .int .i64 t4] 31 (0, 0)) := by
  have := heap_alloc_new (w.alloc (.cells #[.int .i64 W, .int .i64 R, .slice AL Lat.length cL] 24 (0, 0))) (.cells #[.slice AP P.length cP, .slice AI B.length cI, .int .i64 t0, .slice A3 t1.length c3, .slice A4 t2.length c4, .slice A5 t3.length c5, .int .i64 t4] 31 (0, 0))
  rw [hw2, show (w.alloc (.cells #[.int .i64 W, .int .i64 R, .slice AL Lat.length cL] 24 (0, 0))).heap.size = b0 + 1 by rw [← hb0]; simp] at this
  exact this
 refine ⟨by rw [← hw2]; exact below_alloc (below_alloc (Below.refl _ w) _) _, fun w' hb => ?_⟩
 have q1 := (hb.block b0 (blk_lt' z1)).trans z1
 have q2 := (hb.block (b0 + 1) (blk_lt' z2)).trans z2
 exact ⟨cell_at q1 rfl, cell_at q1 rfl, cell_at q1 rfl, cell_at q2 rfl, cell_at q2 rfl, cell_at q2 rfl, cell_at q2 rfl, cell_at q2 rfl, cell_at q2 rfl, cell_at q2 rfl⟩
set_option maxRecDepth 100000 in
set_option maxHeartbeats 4000000 in
theorem block_any (h : Bk w AL cL Lat AP cP P AI cI B A3 c3 t1 A4 c4 t2 A5 c5 t3) (hB : sml B) (hLl : Lat.length < 1000000000) (hDN : DN w) :
  Calls Tryd.prog 9 #[.agg #[.int .i64 W, .int .i64 R, .slice AL Lat.length cL], .agg #[.slice AP P.length cP, .slice AI B.length cI, .int .i64 t0, .slice A3 t1.length c3, .slice A4 t2.length c4, .slice A5 t3.length c5, .int .i64 t4]] w (BS w W R Lat B) := by
 obtain ⟨q, hq⟩ := (valid_f W R Lat hLl).get
 have h0 : 0 < w.heap.size := hDN.pos
 have hD : ∀ W1 : World, Below w.heap.size w W1 → DN W1 := fun W1 hb => hDN.below hb h0
 have hV := Aside0.mk (fun (W1 : World) (e1 : Below w.heap.size w W1) => machine_ValidModel.calls q W R AL cL Lat _ W1 (h.below e1).rL h.hL hq)
 obtain ⟨vb, hvb⟩ : ∃ vb, validB W R Lat = vb := ⟨_, rfl⟩
 rw [hvb] at hV
 have hX := Aside0.mk (And.intro h (And.intro hB (And.intro h0 (And.intro hD hvb))))
 clear h hB h0 hD hvb hq hDN hLl
 go_enter Tryd.func9, Tryd.ntmps9
 go_wp2_with fail
 obtain ⟨w2, hw2⟩ : ∃ w2, (w.alloc (.cells #[.int .i64 W, .int .i64 R, .slice AL Lat.length cL] 24 (0, 0))).alloc (.cells #[.slice AP P.length cP, .slice AI B.length cI, .int .i64 t0, .slice A3 t1.length c3, .slice A4 t2.length c4, .slice A5 t3.length c5, .int .i64 t4] 31 (0, 0)) = w2 := ⟨_, rfl⟩
 obtain ⟨b0, hb0⟩ : ∃ b0, w.heap.size = b0 := ⟨_, rfl⟩
 have h2 := two_cells hw2 hb0
 rw [hw2, hb0]
 clear hw2 hb0
 obtain ⟨B2, hCl⟩ := h2
 replace hCl := Aside0.mk hCl
 replace B2 := Aside0.mk B2
 refine (hV.out _ B2.out).mono ?_
 rintro e w3 ⟨rfl, B3⟩
 have B3' := Aside0.mk (bl1 B2.out B3)
 obtain ⟨a0, a1, a2, d0, d1, d2, d3, d4, d5, d6⟩ := hCl.out w3 B3
 clear B3 hV hCl B2
 cases vb with
 | false =>
  have hF : Aside0 (BS w W R Lat B (.returned (.tuple #[.slice none 0 0, .slice none 0 0])) w3) := ⟨_, _, [], [], rfl, .inl ⟨hX.out.2.2.2.2, rfl, rfl⟩, Kd.R_nil _ _ _ _ _, Kd.R_nil _ _ _ _ _, B3'.out⟩
  clear hX B3' a0 a1 a2 d0 d1 d2 d3 d4 d5 d6
  go_wp2
  go_ret2
  exact hF.out
 | true =>
  go_wp2_with fail
  refine (new_any (hX.out.1.below B3'.out) hX.out.2.1 (insS_ok hX.out.2.2.2.2 hX.out.2.1.len)).mono ?_
  rintro e w4 hNS
  obtain ⟨p, rfl, B4, hRun⟩ := run_ns (Nat.lt_of_lt_of_le hX.out.2.2.1 B3'.out.size) (fun W1 hb => hX.out.2.2.2.1 W1 (bl1 B3'.out hb)) hX.out.2.1 hX.out.2.2.2.2 hNS
  clear hNS a0 a1 a2 d0 d1 d2 d3 d4 d5 d6
  replace hRun := Aside0.mk hRun
  go_wp2_with fail
  refine hRun.out.mono ?_
  rintro e w5 ⟨vo, vy, o, y, rfl, hIs, r1, r2, B5⟩
  have hF : Aside0 (BS w W R Lat B (.returned (.tuple #[vo, vy])) w5) := ⟨vo, vy, o, y, rfl, hIs, Kd.R_mono r1 (fun k hk => Nat.le_trans B3'.out.size hk), Kd.R_mono r2 (fun k hk => Nat.le_trans B3'.out.size hk), bl1 B3'.out B5⟩
  clear hRun hIs r1 r2 B5 B4 hX B3'
  go_wp2
  go_ret2
  exact hF.out
end
end Go.Proofs.YtjacphcbiaacnaaDoor
end

section
/- Length. -/
set_option linter.unusedVariables false
set_option linter.unusedSimpArgs false
set_option linter.unusedSectionVars false
namespace Go.Proofs.YtjacphcbiaacnaaDoor
open Go.RowKit Go.Proofs.YtjacphcbiaacnaaDoorW.PrintWords Go.Proofs.YtjacphcbiaacnaaDoor.PDigraphTells Mem Sc
section
variable {w w' : World} {W R : Int} {AL : Option Addr} {cL : Nat} {Lat : List Int} {AP : Option Addr} {cP : Nat} {P : List Int} {AI : Option Addr} {cI : Nat} {B : List S48} {A3 : Option Addr} {c3 : Nat} {t1 : List Int} {A4 : Option Addr} {c4 : Nat} {t2 : List Int} {A5 : Option Addr} {c5 : Nat} {t3 : List S98} {t0 t4 : Int}
theorem IsB.lat (hB : B.length ≤ 60) {o y : List Int} (h : IsB W R Lat B o y) (hp : 0 < o.length) (i : Nat) : 1 ≤ latI Lat (rd_T48 B (i : Int)).f0 ∧ latI Lat (rd_T48 B (i : Int)).f0 ≤ 100 := by
  rcases h with ⟨_, rfl, _⟩ | ⟨hv, _⟩
  · simp at hp
  · exact (insS_ok hv hB).lt1 i
set_option maxRecDepth 100000 in
set_option maxHeartbeats 4000000 in
theorem len_any (h : Bk w AL cL Lat AP cP P AI cI B A3 c3 t1 A4 c4 t2 A5 c5 t3) (hB : sml B) (hLl : Lat.length < 1000000000) (hDN : DN w) :
    Calls Tryd.prog 13 #[.agg #[.int .i64 W, .int .i64 R, .slice AL Lat.length cL], .agg #[.slice AP P.length cP, .slice AI B.length cI, .int .i64 t0, .slice A3 t1.length c3, .slice A4 t2.length c4, .slice A5 t3.length c5, .int .i64 t4]] w fun e w' => ∃ o y, e = .returned (.int .i64 (lenF Lat B o y 0)) ∧ IsB W R Lat B o y ∧ Below w.heap.size w w' := by
  have hX := Aside0.mk (And.intro h (And.intro hB (And.intro hLl hDN)))
  clear h hB hLl hDN
  go_enter Tryd.func13, Tryd.ntmps13
  go_upto_region 1 with (fail)
  obtain ⟨w2, hw2⟩ : ∃ w2, (w.alloc (.cells #[.int .i64 W, .int .i64 R, .slice AL Lat.length cL] 24 (0, 0))).alloc (.cells #[.slice AP P.length cP, .slice AI B.length cI, .int .i64 t0, .slice A3 t1.length c3, .slice A4 t2.length c4, .slice A5 t3.length c5, .int .i64 t4] 31 (0, 0)) = w2 := ⟨_, rfl⟩
  obtain ⟨b0, hb0⟩ : ∃ b0, w.heap.size = b0 := ⟨_, rfl⟩
  have h2 := two_cells hw2 hb0
  rw [hw2, hb0]
  clear hw2 hb0
  obtain ⟨B2, hCl⟩ := h2
  replace hCl := Aside0.mk hCl
  replace B2 := Aside0.mk B2
  obtain ⟨a0, a1, a2, d0, d1, d2, d3, d4, d5, d6⟩ := hCl.out w2 (Below.refl _ _)
  go_wp2_with fail
  refine (block_any (hX.out.1.below B2.out) hX.out.2.1 hX.out.2.2.1 (hX.out.2.2.2.below B2.out hX.out.2.2.2.pos)).mono ?_
  rintro e w3 ⟨vo, vy, o, y, rfl, hIs, r1, r2, B3⟩
  obtain ⟨Ao, co, ev, ho, Co⟩ := Kd.R_reads r1
  subst ev
  obtain ⟨Ay, cy, ev, hy, Cy⟩ := Kd.R_reads r2
  subst ev
  obtain ⟨hb1, hb2, hb3⟩ := hIs.bounds hX.out.2.1.len
  have hol : o.length ≤ 60 := Nat.le_trans hb2 hX.out.2.1.len
  have hK := Aside0.mk (And.intro hIs (And.intro Co (And.intro Cy (And.intro hb1 (And.intro hb3 B3)))))
  clear r1 r2 hIs Co Cy hb1 hb2 hb3 B3 ho hy a0 a1 a2 d0 d1 d2 d3 d4 d5 d6
  go_wp2_with fail
  go_loopg [18, 7] o.length (fun q v u wi => ∃ (j : Nat) (n : Int), j + q = o.length ∧ v = .int .i64 (j : Int) ∧ u = .int .i64 n ∧ Aside0 (lenF Lat B (o.drop j) (y.drop j) n = lenF Lat B o y 0 ∧ Below w3.heap.size w3 wi))
  case atStart => exact ⟨0, 0, by omega, rfl, rfl, ⟨rfl, Below.refl _ _⟩⟩
  case round =>
    obtain ⟨j, n, hj, rfl, rfl, hJ⟩ := hrel
    by_cases hlt : j < o.length
    · have hlti : (j : Int) < o.length := by omega
      obtain ⟨gk1, rfl⟩ : ∃ q, gk = q + 1 := ⟨gk - 1, by omega⟩
      have hj1 : j + 1 + gk1 = o.length := by omega
      have hgk : gk1 < gk1 + 1 := by omega
      have hBw := Aside0.mk (bl1 (bl1 B2.out hK.out.2.2.2.2.2) hJ.out.2)
      have hlt2 : j < y.length := by have := hK.out.2.2.2.1; omega
      have hj0 : (0 : Int) ≤ (j : Int) := by omega
      have hjy : (j : Int) < (y.length : Int) := by omega
      obtain ⟨ao, eA, x1⟩ := Kd.at_int (Kd.C_below hK.out.2.1 hJ.out.2) (j : Int) hj0 hlti
      subst eA
      obtain ⟨ay, eA, x2⟩ := Kd.at_int (Kd.C_below hK.out.2.2.1 hJ.out.2) (j : Int) hj0 hjy
      subst eA
      rw [Int.toNat_natCast] at x1 x2
      have hbd := hK.out.2.2.2.2.1 j hlt
      obtain ⟨a, ha⟩ : ∃ a : Nat, rd o (j : Int) = (a : Int) := ⟨(rd o (j : Int)).toNat, by omega⟩
      obtain ⟨yj, hyj⟩ : ∃ z, rd y (j : Int) = z := ⟨_, rfl⟩
      rw [ha, hyj] at hbd
      rw [ha] at x1
      rw [hyj] at x2
      have ha0 : (0 : Int) ≤ (a : Int) := by omega
      have ha1 : (a : Int) < (B.length : Int) := by omega
      obtain ⟨ad, A1, c1, eA, x0, _, _, _, _, _, _, _, hl1, hC1⟩ := at_T48 (hX.out.1.below hBw.out).rI (a : Int) ha0 ha1
      subst eA
      rw [Int.toNat_natCast] at x0
      clear hl1 hC1
      have hlb := hK.out.1.lat hX.out.2.1.len (by omega) a
      have hnx : lenF Lat B (o.drop (j + 1)) (y.drop (j + 1)) (mx n (yj + latI Lat (rd_T48 B (a : Int)).f0)) = lenF Lat B o y 0 := by
        have h9 := hJ.out.1
        rw [List.drop_eq_getElem_cons hlt, List.drop_eq_getElem_cons hlt2, lenF, ← rd_get o j hlt, ← rd_get y j hlt2, ha, hyj] at h9
        exact h9
      obtain ⟨fk, hfk⟩ : ∃ fk, (rd_T48 B (a : Int)).f0 = fk := ⟨_, rfl⟩
      rw [hfk] at x0 hlb hnx
      have hL := Aside0.mk (fun (W1 : World) (e1 : Below wr.heap.size wr W1) => machine_Latency.calls W R AL cL Lat fk _ W1 (Kd.C_below (hX.out.1.below hBw.out).rL e1) hX.out.1.hL (lat_f W R Lat fk))
      obtain ⟨lk, hlk⟩ : ∃ lk, latI Lat fk = lk := ⟨_, rfl⟩
      rw [hlk] at hL hlb hnx
      have hw : IntKind.i64.wrap (yj + lk) = yj + lk := (IntKind.wrap_i64 _).trans (by omega)
      obtain ⟨a0, a1, a2, _, d1, _, _, _, _, _⟩ := hCl.out wr (bl1 hK.out.2.2.2.2.2 hJ.out.2)
      have hFa := Aside0.mk (And.intro hw hnx)
      clear hw hnx hlb hbd ha hyj hfk hlk
      go_upto_region 6 with (fail)
      go_region_held3 (fun w' => w'.cell? (ay.add j) = some (.int .i64 yj) ∧ w'.cell? ⟨b0, 0, none⟩ = some (.int .i64 W) ∧ w'.cell? ⟨b0, 1, none⟩ = some (.int .i64 R) ∧ w'.cell? ⟨b0, 2, none⟩ = some (.slice AL Lat.length cL) ∧ w'.cell? ⟨b0 + 1, 1, none⟩ = some (.slice (some ad) B.length cI) ∧ w'.cell? (ad.add (a * 8)) = some (.int .i64 fk)) (first | assumption | exact ⟨x2, a0, a1, a2, d1, x0⟩ | go_keep) (first
        | ((go_at_call 20; with_reducible refine (hL.out _ ?_).mono ?_)
           · first | exact Below.refl _ _ | exact below_drew (Below.refl _ _) | exact pw_below_drewN (Below.refl _ _) _
           rintro e' w6 ⟨rfl, Bx0⟩
           have Bx : Below wr.heap.size wr w6 := by first | exact Bx0 | exact (pw_below_drewN (Below.refl _ wr) _).trans Bx0
           clear Bx0
           have f1 : w6.cell? (ay.add j) = some (.int .i64 yj) ∧ w6.cell? ⟨b0, 0, none⟩ = some (.int .i64 W) ∧ w6.cell? ⟨b0, 1, none⟩ = some (.int .i64 R) ∧ w6.cell? ⟨b0, 2, none⟩ = some (.slice AL Lat.length cL) ∧ w6.cell? ⟨b0 + 1, 1, none⟩ = some (.slice (some ad) B.length cI) ∧ w6.cell? (ad.add (a * 8)) = some (.int .i64 fk) := ⟨(Below.cell Bx (World.block_lt_of_cell? _ _ x2)).trans x2, (Below.cell Bx (World.block_lt_of_cell? _ _ a0)).trans a0, (Below.cell Bx (World.block_lt_of_cell? _ _ a1)).trans a1, (Below.cell Bx (World.block_lt_of_cell? _ _ a2)).trans a2, (Below.cell Bx (World.block_lt_of_cell? _ _ d1)).trans d1, (Below.cell Bx (World.block_lt_of_cell? _ _ x0)).trans x0⟩
           have H6 := Aside0.mk (bl1 hJ.out.2 Bx)
           clear Bx)
        | fail)
      rw [hFa.out.1]
      have hI1 : Aside0 (lenF Lat B (o.drop (j + 1)) (y.drop (j + 1)) (if n < yj + lk then yj + lk else n) = lenF Lat B o y 0 ∧ Below w3.heap.size w3 w6) := ⟨by have h9 := hFa.out.2; unfold mx at h9; first | exact h9 | (rw [← h9]; congr 1; split <;> split <;> omega), H6.out⟩
      obtain ⟨n2, hn2⟩ : ∃ n2, (if n < yj + lk then yj + lk else n) = n2 := ⟨_, rfl⟩
      rw [hn2] at hI1 ⊢
      clear hn2 hFa H6 f1 hL hJ hBw x0 x1 x2 a0 a1 a2 d1 hK hX hCl B2
      go_wp2_with fail
      go_roundg gk1
      case rel => exact ⟨j + 1, n2, hj1, by go_num, rfl, hI1⟩
      case measure => exact hgk
    · have hE : n = lenF Lat B o y 0 := by
        have h9 := hJ.out.1
        rw [List.drop_of_length_le (by omega), show lenF Lat B [] (y.drop j) n = n by (cases y.drop j <;> rfl)] at h9
        exact h9
      have hF := Aside0.mk (And.intro hK.out.1 (bl1 (bl1 B2.out hK.out.2.2.2.2.2) hJ.out.2))
      subst hE
      clear hJ hK hX hCl B2
      go_wp2
      go_ret
      exact ⟨o, y, rfl, hF.out⟩
end
end Go.Proofs.YtjacphcbiaacnaaDoor
end

section
/- slices.Max; LowerBound. -/
set_option linter.unusedVariables false
set_option linter.unusedSimpArgs false
set_option linter.unusedSectionVars false
namespace Go.Proofs.YtjacphcbiaacnaaDoor
open Go.RowKit Go.Proofs.YtjacphcbiaacnaaDoorW.PrintWords Go.Proofs.YtjacphcbiaacnaaDoor.PDigraphTells Mem Sc
/-- r is the greatest of m and the numbers of xs. -/
def IsMx (xs : List Int) (m r : Int) : Prop := (r = m ∨ r ∈ xs) ∧ m ≤ r ∧ ∀ x ∈ xs, x ≤ r
theorem IsMx.uniq {xs : List Int} {m r r' : Int} (h : IsMx xs m r) (g : IsMx xs m r') : r = r' := by
 have h1 : r ≤ r' := by
  rcases h.1 with e | e
  ·rw [e]; exact g.2.1
  ·exact g.2.2 _ e
 have h2 : r' ≤ r := by
  rcases g.1 with e | e
  ·rw [e]; exact h.2.1
  ·exact h.2.2 _ e
 omega
theorem mx_le (a b : Int) : (mx a b = a ∨ mx a b = b) ∧ a ≤ mx a b ∧ b ≤ mx a b := by unfold mx; split <;> omega
theorem foldl_mx : ∀ (xs : List Int) (m : Int), IsMx xs m (xs.foldl mx m)
 | [], m => ⟨.inl rfl, Int.le_refl _, fun x hx => by simp at hx⟩
 | x :: xs, m => by
  obtain ⟨h1, h2, h3⟩ := foldl_mx xs (mx m x)
  obtain ⟨g1, g2, g3⟩ := mx_le m x
  refine ⟨?_, Int.le_trans g2 h2, fun z hz => ?_⟩
  ·rw [List.foldl_cons]
   rcases h1 with e | e
   ·rcases g1 with e2 | e2
    ·exact .inl (e.trans e2)
    ·exact .inr (by rw [e, e2]; simp)
   ·exact .inr (by simp [e])
  ·rw [List.foldl_cons]
   rcases List.mem_cons.1 hz with rfl | hz
   ·exact Int.le_trans g3 h2
   ·exact h3 z hz
/-- The greatest of a row that is not empty, and one number more. -/
theorem mx_low {xs : List Int} (hp : 0 < xs.length) (q : Int) : IsMx xs q (mx ((xs.drop 1).foldl mx (rd xs (0 : Nat))) q) := by
 obtain ⟨x, ys, rfl⟩ : ∃ x ys, xs = x :: ys := by cases xs with | nil => simp at hp | cons x ys => exact ⟨x, ys, rfl⟩
 have e0 : rd (x :: ys) ((0 : Nat) : Int) = x := rfl
 rw [e0, List.drop_one, List.tail_cons]
 obtain ⟨h1, h2, h3⟩ := foldl_mx ys x
 obtain ⟨g1, g2, g3⟩ := mx_le (ys.foldl mx x) q
 refine ⟨?_, g3, fun z hz => ?_⟩
 ·rcases g1 with e | e
  ·rw [e]
   rcases h1 with e2 | e2
   ·exact .inr (by rw [e2]; simp)
   ·exact .inr (by simp [e2])
  ·exact .inl e
 ·rcases List.mem_cons.1 hz with rfl | hz
  ·exact Int.le_trans h2 g2
  ·exact Int.le_trans (h3 z hz) g2
set_option maxRecDepth 100000 in
set_option maxHeartbeats 4000000 in
theorem max_any {w : World} {A : Option Addr} {c : Nat} {xs : List Int} (hC : Kd.C (Kd.int .i64) w A xs.length xs) (hc : xs.length ≤ c) (hp : 0 < xs.length) (hl : xs.length ≤ 1000) :
  Calls Tryd.prog 32 #[.slice A xs.length c] w fun e w' => e = .returned (.int .i64 ((xs.drop 1).foldl mx (rd xs (0 : Nat)))) ∧ Below w.heap.size w w' := by
 obtain ⟨a, eA, x0⟩ := Kd.at_int hC ((0 : Nat) : Int) (by omega) (by omega)
 subst eA
 rw [Int.toNat_natCast] at x0
 have x0' : w.cell? a = some (.int .i64 (rd xs ((0 : Nat) : Int))) := by
  have e : a.add 0 = a := by cases a; simp [Addr.add]
  rw [e] at x0
  exact x0
 obtain ⟨m0, hm0⟩ : ∃ m, rd xs ((0 : Nat) : Int) = m := ⟨_, rfl⟩
 rw [hm0] at x0 x0' ⊢
 obtain ⟨r, hr⟩ : ∃ r, (xs.drop 1).foldl mx m0 = r := ⟨_, rfl⟩
 rw [hr]
 have hX := Aside0.mk (And.intro hC hr)
 have hp1 : ¬ (xs.length : Int) < 1 := by omega
 have hp2 : (0 : Int) < (xs.length : Int) := by omega
 clear hC hr hm0
 go_enter Tryd.func32, Tryd.ntmps32
 go_wp2_with fail
 go_loopg [3, 4] (xs.length - 1) (fun q v3 v4 wi => ∃ (j : Nat) (m : Int), j + q = xs.length ∧ 1 ≤ j ∧ v3 = .int .i64 m ∧ v4 = .int .i64 (j : Int) ∧ Aside0 ((xs.drop j).foldl mx m = r ∧ Below w.heap.size w wi))
 case atStart => exact ⟨1, m0, by omega, Nat.le_refl _, rfl, rfl, ⟨hX.out.2, Below.refl _ _⟩⟩
 case round =>
  obtain ⟨j, m, hj, hj9, rfl, rfl, hJ⟩ := hrel
  by_cases hlt : j < xs.length
  ·have hlti : (j : Int) < xs.length := by omega
   have hj0 : (0 : Int) ≤ (j : Int) := by omega
   obtain ⟨gk1, rfl⟩ : ∃ q, gk = q + 1 := ⟨gk - 1, by omega⟩
   have hj1 : j + 1 + gk1 = xs.length := by omega
   have hgk : gk1 < gk1 + 1 := by omega
   obtain ⟨a2, eA, x1⟩ := Kd.at_int (Kd.C_below hX.out.1 hJ.out.2) (j : Int) hj0 hlti
   injection eA with eA
   subst eA
   rw [Int.toNat_natCast] at x1
   have hI1 : Aside0 ((xs.drop (j + 1)).foldl mx (mx m (rd xs (j : Int))) = r ∧ Below w.heap.size w wr) := ⟨by
    have h9 := hJ.out.1
    rw [List.drop_eq_getElem_cons hlt, List.foldl_cons, ← rd_get xs j hlt] at h9
    exact h9, hJ.out.2⟩
   obtain ⟨xj, hxj⟩ : ∃ z, rd xs (j : Int) = z := ⟨_, rfl⟩
   rw [hxj] at x1 hI1
   clear hxj hJ x0 x0'
   by_cases hmx : m < xj
   ·rw [show mx m xj = xj from if_pos hmx] at hI1
    go_wp2_with fail
    go_roundg gk1
    case rel => exact ⟨j + 1, xj, hj1, by omega, rfl, by go_num, hI1⟩
    case measure => exact hgk
   ·rw [show mx m xj = m from if_neg hmx] at hI1
    go_wp2_with fail
    go_roundg gk1
    case rel => exact ⟨j + 1, m, hj1, by omega, rfl, by go_num, hI1⟩
    case measure => exact hgk
  ·obtain rfl : m = r := by
    have h9 := hJ.out.1
    rw [List.drop_of_length_le (by omega)] at h9
    exact h9
   have hF := Aside0.mk hJ.out.2
   clear hJ hX x0 x0'
   go_wp2
   go_ret
   exact ⟨rfl, hF.out⟩
end Go.Proofs.YtjacphcbiaacnaaDoor
end

section
/- LowerBound. -/
set_option linter.unusedVariables false
set_option linter.unusedSimpArgs false
set_option linter.unusedSectionVars false
namespace Go.Proofs.YtjacphcbiaacnaaDoor
open Go.RowKit Go.Proofs.YtjacphcbiaacnaaDoorW.PrintWords Go.Proofs.YtjacphcbiaacnaaDoor.PDigraphTells Mem Sc
section
variable {w w' : World} {W R : Int} {AL : Option Addr} {cL : Nat} {Lat : List Int} {AP : Option Addr} {cP : Nat} {P : List Int} {AI : Option Addr} {cI : Nat} {B : List S48} {A3 : Option Addr} {c3 : Nat} {t1 : List Int} {A4 : Option Addr} {c4 : Nat} {t2 : List Int} {A5 : Option Addr} {c5 : Nat} {t3 : List S98} {t0 t4 : Int}
/-- What LowerBound answers. -/
def IsLow (W R : Int) (Lat : List Int) (B : List S48) (r : Int) : Prop := ((validB W R Lat = false ∨ B.length = 0) ∧ r = 0) ∨ (validB W R Lat = true ∧ 0 < B.length ∧ ∃ T, Hp (insS W Lat B) T 0 ∧ IsMx T (Int.tdiv ((B.length : Int) - 1) W + 1) r)
theorem IsLow.uniq {r r' : Int} (h : IsLow W R Lat B r) (g : IsLow W R Lat B r') : r = r' := by
 rcases h with ⟨h1, rfl⟩ | ⟨h1, h2, T, h3, h4⟩ <;> rcases g with ⟨g1, rfl⟩ | ⟨g1, g2, U, g3, g4⟩
 ·rfl
 ·rcases h1 with h1 | h1
  ·rw [h1] at g1; cases g1
  ·omega
 ·rcases g1 with g1 | g1
  ·rw [h1] at g1; cases g1
  ·omega
 ·have := h3.uniq g3
  subst this
  exact h4.uniq g4
theorem quo_up {n : Nat} {W : Int} (hn : 0 < n) (hW : 1 ≤ W ∧ W ≤ 8) : Int.tdiv ((n : Int) + W - 1) W = Int.tdiv ((n : Int) - 1) W + 1 := by
 rw [Int.tdiv_eq_ediv_of_nonneg (by omega), Int.tdiv_eq_ediv_of_nonneg (by omega), show (n : Int) + W - 1 = ((n : Int) - 1) + W * 1 by omega, Int.add_mul_ediv_left _ _ (by omega)]
theorem quo_bd {n : Nat} {W : Int} (hn : 0 < n ∧ n ≤ 60) (hW : 1 ≤ W ∧ W ≤ 8) : 0 ≤ Int.tdiv ((n : Int) - 1) W ∧ Int.tdiv ((n : Int) - 1) W ≤ 60 := by
 rw [Int.tdiv_eq_ediv_of_nonneg (by omega)]
 refine ⟨Int.ediv_nonneg (by omega) (by omega), ?_⟩
 exact Int.le_trans (Int.ediv_le_self _ (by omega)) (by omega)
theorem max_row {p : Nat} {AD : Option Addr} {cD : Nat} {AH : Option Addr} {cH : Nat} {T : List Int} {AY : Option Addr} {cY : Nat} {Y : List Int} (h : Sf w p W R AL cL Lat AI cI B AD cD AH cH T AY cY Y) (hT : T.length = B.length) (hl : B.length ≤ 60) (hp : 0 < B.length) :
  Calls Tryd.prog 32 #[.slice AH B.length cH] w fun e w' => e = .returned (.int .i64 ((T.drop 1).foldl mx (rd T (0 : Nat)))) ∧ Below w.heap.size w w' := by
 have hC := h.H
 have hc := h.hH
 rw [← hT] at hC hc ⊢
 exact max_any hC hc (by omega) (by omega)
set_option maxRecDepth 100000 in
set_option maxHeartbeats 4000000 in
theorem low_any (h : Bk w AL cL Lat AP cP P AI cI B A3 c3 t1 A4 c4 t2 A5 c5 t3) (hB : sml B) (hLl : Lat.length < 1000000000) :
  Calls Tryd.prog 15 #[.agg #[.int .i64 W, .int .i64 R, .slice AL Lat.length cL], .agg #[.slice AP P.length cP, .slice AI B.length cI, .int .i64 t0, .slice A3 t1.length c3, .slice A4 t2.length c4, .slice A5 t3.length c5, .int .i64 t4]] w fun e w' => ∃ r, e = .returned (.int .i64 r) ∧ IsLow W R Lat B r ∧ Below w.heap.size w w' := by
 obtain ⟨q, hq⟩ := (valid_f W R Lat hLl).get
 have hl := hB.len
 have hV := Aside0.mk (fun (W1 : World) (e1 : Below w.heap.size w W1) => machine_ValidModel.calls q W R AL cL Lat _ W1 (h.below e1).rL h.hL hq)
 obtain ⟨vb, hvb⟩ : ∃ vb, validB W R Lat = vb := ⟨_, rfl⟩
 rw [hvb] at hV
 have hX := Aside0.mk (And.intro h (And.intro hB hvb))
 clear h hB hvb hq hLl
 go_enter Tryd.func15, Tryd.ntmps15
 go_wp2_with fail
 obtain ⟨w2, hw2⟩ : ∃ w2, (w.alloc (.cells #[.int .i64 W, .int .i64 R, .slice AL Lat.length cL] 24 (0, 0))).alloc (.cells #[.slice AP P.length cP, .slice AI B.length cI, .int .i64 t0, .slice A3 t1.length c3, .slice A4 t2.length c4, .slice A5 t3.length c5, .int .i64 t4] 31 (0, 0)) = w2 := ⟨_, rfl⟩
 obtain ⟨b0, hb0⟩ : ∃ b0, w.heap.size = b0 := ⟨_, rfl⟩
 have h2 := two_cells hw2 hb0
 rw [hw2, hb0]
 clear hw2 hb0
 obtain ⟨B2, hCl⟩ := h2
 replace hCl := Aside0.mk hCl
 replace B2 := Aside0.mk B2
 refine (hV.out _ B2.out).mono ?_
 rintro e w3 ⟨rfl, B3⟩
 have B3' := Aside0.mk (bl1 B2.out B3)
 replace hCl := Aside0.mk (fun (w' : World) (hb : Below w3.heap.size w3 w') => hCl.out w' (bl1 B3 hb))
 obtain ⟨a0, a1, a2, d0, d1, d2, d3, d4, d5, d6⟩ := hCl.out w3 (Below.refl _ _)
 clear B3 hV B2
 cases vb with
 | false =>
  have hF : Aside0 (IsLow W R Lat B 0 ∧ Below w.heap.size w w3) := ⟨.inl ⟨.inl hX.out.2.2, rfl⟩, B3'.out⟩
  clear hX B3' hCl a0 a1 a2 d0 d1 d2 d3 d4 d5 d6
  go_wp2
  go_ret
  exact ⟨_, rfl, hF.out⟩
 | true =>
  by_cases hn : B.length = 0
  ·have hn2 : (B.length : Int) = 0 := by omega
   have hF : Aside0 (IsLow W R Lat B 0 ∧ Below w.heap.size w w3) := ⟨.inl ⟨.inr hn, rfl⟩, B3'.out⟩
   clear hX B3' hCl
   go_wp2
   go_ret
   exact ⟨_, rfl, hF.out⟩
  ·have hn2 : ¬ (B.length : Int) = 0 := by omega
   have hnb : ((B.length : Int) == 0) = false := by simpa using hn2
   have hW := (validB_iff hX.out.2.2).2.1
   have hW0 : ¬ W = 0 := by omega
   have hWb : (W == 0) = false := by simpa using hW0
   have hqu := quo_up (n := B.length) (by omega) hW
   have hqb := quo_bd (n := B.length) ⟨by omega, hl⟩ hW
   have s1 : IntKind.i64.wrap ((B.length : Int) + W) = (B.length : Int) + W := (IntKind.wrap_i64 _).trans (by omega)
   have s2 : IntKind.i64.wrap ((B.length : Int) + W - 1) = (B.length : Int) + W - 1 := (IntKind.wrap_i64 _).trans (by omega)
   obtain ⟨qv, hqv⟩ : ∃ qv, Int.tdiv ((B.length : Int) - 1) W + 1 = qv := ⟨_, rfl⟩
   rw [hqv] at hqu
   have s3 : IntKind.i64.wrap qv = qv := (IntKind.wrap_i64 _).trans (by omega)
   have hS := Aside0.mk (And.intro s1 (And.intro s2 (And.intro hqu (And.intro s3 hqv))))
   have hNew := Aside0.mk (fun (W1 : World) (e1 : Below w3.heap.size w3 W1) => new_any (R := R) (t0 := t0) (t4 := t4) (hX.out.1.below (bl1 B3'.out e1)) hX.out.2.1 (insS_ok hX.out.2.2 hX.out.2.1.len))
   have hlen := Aside0.mk (And.intro hl (show 0 < B.length by omega))
   clear hqu hqb hqv s1 s2 s3
   go_upto_region 3 with (fail)
   refine Held.begin_ (S := fun w' => w'.cell? ⟨b0, 0, none⟩ = some (.int .i64 W) ∧ w'.cell? ⟨b0, 1, none⟩ = some (.int .i64 R) ∧ w'.cell? ⟨b0, 2, none⟩ = some (.slice AL Lat.length cL) ∧ w'.cell? ⟨b0 + 1, 0, none⟩ = some (.slice AP P.length cP) ∧ w'.cell? ⟨b0 + 1, 1, none⟩ = some (.slice AI B.length cI) ∧ w'.cell? ⟨b0 + 1, 2, none⟩ = some (.int .i64 t0) ∧ w'.cell? ⟨b0 + 1, 3, none⟩ = some (.slice A3 t1.length c3) ∧ w'.cell? ⟨b0 + 1, 4, none⟩ = some (.slice A4 t2.length c4) ∧ w'.cell? ⟨b0 + 1, 5, none⟩ = some (.slice A5 t3.length c5) ∧ w'.cell? ⟨b0 + 1, 6, none⟩ = some (.int .i64 t4)) 18 (by kernel_rfl) (by kernel_rfl) ?_ (fun hHeld => ?_)
   ·exact ⟨a0, a1, a2, d0, d1, d2, d3, d4, d5, d6⟩
   simp only [List.length_cons, List.length_nil, Nat.reduceAdd, List.replicate, Array.replicate]
   refine Held.take_ (v := ?vv689600) 0 rfl rfl (by kernel_rfl) (by kernel_rfl) (fun _ _ _ h => h) (by assumption) (Or.inl ⟨by rfl, ?hy689600⟩) ?_
   case hy689600 => intro w hSw; (try dsimp only at hSw); (go_simp <;> with_reducible rfl)
   try simp only [Act.put, List.setIfInBounds_toArray, List.set_cons_zero, List.set_cons_succ]
   refine Held.take_ (v := ?vv689601) 1 rfl rfl (by kernel_rfl) (by kernel_rfl) (fun _ _ _ h => h) (by assumption) (Or.inl ⟨by rfl, ?hy689601⟩) ?_
   case hy689601 => intro w hSw; (try dsimp only at hSw); (go_simp <;> with_reducible rfl)
   try simp only [Act.put, List.setIfInBounds_toArray, List.set_cons_zero, List.set_cons_succ]
   refine Held.take_ (v := ?vv689607) 7 rfl rfl (by kernel_rfl) (by kernel_rfl) (fun _ _ _ h => h) (by assumption) (Or.inl ⟨by rfl, ?hy689607⟩) ?_
   case hy689607 => intro w hSw; (try dsimp only at hSw); (go_simp <;> with_reducible rfl)
   try simp only [Act.put, List.setIfInBounds_toArray, List.set_cons_zero, List.set_cons_succ]
   refine Held.take_ (v := ?vv689608) 8 rfl rfl (by kernel_rfl) (by kernel_rfl) (fun _ _ _ h => h) (by assumption) (Or.inl ⟨by rfl, ?hy689608⟩) ?_
   case hy689608 => intro w hSw; (try dsimp only at hSw); (go_simp <;> with_reducible rfl)
   try simp only [Act.put, List.setIfInBounds_toArray, List.set_cons_zero, List.set_cons_succ]
   refine Held.take_ (v := ?vv689609) 9 rfl rfl (by kernel_rfl) (by kernel_rfl) (fun _ _ _ h => h) (by assumption) (Or.inl ⟨by rfl, ?hy689609⟩) ?_
   case hy689609 => intro w hSw; (try dsimp only at hSw); (go_simp <;> with_reducible rfl)
   try simp only [Act.put, List.setIfInBounds_toArray, List.set_cons_zero, List.set_cons_succ]
   refine Held.take_ (v := ?vv689610) 10 rfl rfl (by kernel_rfl) (by kernel_rfl) (fun _ _ _ h => h) (by assumption) (Or.inl ⟨by rfl, ?hy689610⟩) ?_
   case hy689610 => intro w hSw; (try dsimp only at hSw); (go_simp <;> with_reducible rfl)
   try simp only [Act.put, List.setIfInBounds_toArray, List.set_cons_zero, List.set_cons_succ]
   refine Held.take_ (v := ?vv689611) 11 rfl rfl (by kernel_rfl) (by kernel_rfl) (fun _ _ _ h => h) (by assumption) (Or.inl ⟨by rfl, ?hy689611⟩) ?_
   case hy689611 => intro w hSw; (try dsimp only at hSw); (go_simp <;> with_reducible rfl)
   try simp only [Act.put, List.setIfInBounds_toArray, List.set_cons_zero, List.set_cons_succ]
   refine Held.take_ (v := ?vv689612) 12 rfl rfl (by kernel_rfl) (by kernel_rfl) (fun _ _ _ h => h) (by assumption) (Or.inl ⟨by rfl, ?hy689612⟩) ?_
   case hy689612 => intro w hSw; (try dsimp only at hSw); (go_simp <;> with_reducible rfl)
   try simp only [Act.put, List.setIfInBounds_toArray, List.set_cons_zero, List.set_cons_succ]
   refine Held.take_ (v := ?vv689613) 13 rfl rfl (by kernel_rfl) (by kernel_rfl) (fun _ _ _ h => h) (by assumption) (Or.inl ⟨by rfl, ?hy689613⟩) ?_
   case hy689613 => intro w hSw; (try dsimp only at hSw); (go_simp <;> with_reducible rfl)
   try simp only [Act.put, List.setIfInBounds_toArray, List.set_cons_zero, List.set_cons_succ]
   refine Held.take_ (v := ?vv689614) 14 rfl rfl (by kernel_rfl) (by kernel_rfl) (fun _ _ _ h => h) (by assumption) (Or.inl ⟨by rfl, ?hy689614⟩) ?_
   case hy689614 => intro w hSw; (try dsimp only at hSw); (go_simp <;> with_reducible rfl)
   try simp only [Act.put, List.setIfInBounds_toArray, List.set_cons_zero, List.set_cons_succ]
   refine Held.take_ (v := ?vv689615) 15 rfl rfl (by kernel_rfl) (by kernel_rfl) (fun _ _ _ h => h) (by assumption) (Or.inl ⟨by rfl, ?hy689615⟩) ?_
   case hy689615 => intro w hSw; (try dsimp only at hSw); (go_simp <;> with_reducible rfl)
   try simp only [Act.put, List.setIfInBounds_toArray, List.set_cons_zero, List.set_cons_succ]
   refine Held.take_ (v := ?vv689616) 16 rfl rfl (by kernel_rfl) (by kernel_rfl) (fun _ _ _ h => h) (by assumption) (Or.inl ⟨by rfl, ?hy689616⟩) ?_
   case hy689616 => intro w hSw; (try dsimp only at hSw); (go_simp <;> with_reducible rfl)
   try simp only [Act.put, List.setIfInBounds_toArray, List.set_cons_zero, List.set_cons_succ]
   refine Held.step_ 2 rfl rfl (by kernel_rfl) (fun K hK => ?_)
   go_simp
   go_at_call 26
   with_reducible refine (hNew.out _ (below_drew (Below.refl _ _))).mono ?_
   rintro e' w6 ⟨p, AD, cD, AH, cH, T, AY, cY, rfl, hT, hs, Bx0, _⟩
   have Bx : Below w3.heap.size w3 w6 := (below_drew (Below.refl _ w3)).trans Bx0
   clear Bx0
   have f1 := hCl.out w6 Bx
   have p5 := hs.c5
   have hTl : T.length = B.length := hT.len
   have hH := Aside0.mk (And.intro hs (And.intro hT (And.intro Bx hTl)))
   clear hs hT Bx hTl
   go_wp2_with fail
   refine hK.out _ _ f1 (fun hHeld2 => ?_)
   clear hK K
   try simp only [Act.put, List.setIfInBounds_toArray, List.set_cons_zero, List.set_cons_succ]
   refine Held.take_ (v := ?vv770803) 3 rfl rfl (by kernel_rfl) (by kernel_rfl) (fun _ _ _ h => h) (by assumption) (Or.inl ⟨by rfl, ?hy770803⟩) ?_
   case hy770803 => intro w hSw; (try dsimp only at hSw); (go_simp <;> with_reducible rfl)
   try simp only [Act.put, List.setIfInBounds_toArray, List.set_cons_zero, List.set_cons_succ]
   refine Held.take_ (v := ?vv770804) 4 rfl rfl (by kernel_rfl) (by kernel_rfl) (fun _ _ _ h => h) (by assumption) (Or.inl ⟨by rfl, ?hy770804⟩) ?_
   case hy770804 => intro w hSw; (try dsimp only at hSw); (go_simp <;> with_reducible rfl)
   try simp only [Act.put, List.setIfInBounds_toArray, List.set_cons_zero, List.set_cons_succ]
   refine Held.step_ 5 rfl rfl (by kernel_rfl) (fun K hK => ?_)
   go_simp
   refine hK.out _ _ f1 (fun hHeld3 => ?_)
   clear hK K
   try simp only [Act.put, List.setIfInBounds_toArray, List.set_cons_zero, List.set_cons_succ]
   refine Held.step_ 6 rfl rfl (by kernel_rfl) (fun K hK => ?_)
   go_simp
   go_at_call 32
   with_reducible refine (Calls.mono (max_row hH.out.1 hH.out.2.2.2 hlen.out.1 hlen.out.2) ?_)
   rintro e' w7 ⟨rfl, Bx⟩
   have f2 := hCl.out w7 (bl1 hH.out.2.2.1 Bx)
   have hB7 := Aside0.mk (bl1 hH.out.2.2.1 Bx)
   clear Bx
   go_wp2_with fail
   refine hK.out _ _ f2 (fun hHeld4 => ?_)
   clear hK K
   try simp only [Act.put, List.setIfInBounds_toArray, List.set_cons_zero, List.set_cons_succ]
   refine Held.step_ 17 rfl rfl (by kernel_rfl) (fun K hK => ?_)
   go_simp
   refine hK.out _ _ f2 (fun hHeld5 => ?_)
   clear hK K
   try simp only [Act.put, List.setIfInBounds_toArray, List.set_cons_zero, List.set_cons_succ]
   refine Held.rest_ (by kernel_rfl) ?_
   simp only [List.drop_succ_cons, List.drop_zero]
   clear hHeld hHeld2 hHeld3 hHeld4 hHeld5
   rw [hS.out.1, hS.out.2.1, hS.out.2.2.1, hS.out.2.2.2.1]
   have hm : IsMx T qv (if List.foldl mx (rd T 0) T.tail < qv then qv else List.foldl mx (rd T 0) T.tail) := by
    have h9 := mx_low (xs := T) (by have := hH.out.2.2.2; omega) qv
    rw [List.drop_one] at h9
    exact h9
   obtain ⟨r, hr⟩ : ∃ r, (if List.foldl mx (rd T 0) T.tail < qv then qv else List.foldl mx (rd T 0) T.tail) = r := ⟨_, rfl⟩
   rw [hr] at hm ⊢
   have hF : Aside0 (IsLow W R Lat B r ∧ Below w.heap.size w w7) := ⟨.inr ⟨hX.out.2.2, hlen.out.2, T, hH.out.2.1, by rw [hS.out.2.2.2.2]; exact hm⟩, bl1 B3'.out hB7.out⟩
   clear hm hr hS hH hNew hlen hCl hX B3' hB7 f1 f2 p5 a0 a1 a2 d0 d1 d2 d3 d4 d5 d6
   go_wp2
   go_ret
   exact ⟨r, rfl, hF.out⟩
end
end Go.Proofs.YtjacphcbiaacnaaDoor
end

section
/- The reference's LowerBound in plain lists. -/
set_option linter.unusedVariables false
set_option linter.unusedSimpArgs false
set_option linter.unusedSectionVars false
namespace Go.Proofs.YtjacphcbiaacnaaDoor
open Go.RowKit Go.Proofs.YtjacphcbiaacnaaDoorW.PrintWords Go.Proofs.YtjacphcbiaacnaaDoorW.PrintMore Go.Proofs.YtjacphcbiaacnaaDoor.PDigraphTells Sc
theorem rlow_l0 (T : List Int) (hT : T.length ≤ 1000) : ∀ (d j : Nat) (m : Int), j + d = T.length → Ev (fun q => burnishref52_LowerBound.l0 q m T (T.length : Int) (j : Int)) ((T.drop j).foldl mx m) := by
 intro d
 induction d with
 | zero =>
  intro j m hj
  refine Ev.suc (h := fun q => some m) (fun q => ?_) ?_
  ·rw [burnishref52_LowerBound.l0, if_neg (by omega)]
  ·rw [List.drop_of_length_le (by omega)]
   exact Ev.ret _
 | succ d ih =>
  intro j m hj
  have hlt : j < T.length := by omega
  refine Ev.suc (h := fun q => burnishref52_LowerBound.l0 q (mx m (rd T (j : Int))) T (T.length : Int) ((j + 1 : Nat) : Int)) (fun q => ?_) ?_
  ·rw [burnishref52_LowerBound.l0, if_pos (by omega), if_pos (by omega), if_pos (by omega), w64 j (by omega)]
  ·rw [List.drop_eq_getElem_cons hlt, List.foldl_cons, ← rd_get T j hlt]
   exact ih (j + 1) _ (by omega)
theorem rlow_f (W R : Int) (Lat : List Int) (P : List Int) (B : List S48) (t0 : Int) (t1 t2 : List Int) (t3 : List S98) (t4 : Int) (hB : sml B) (hLl : Lat.length < 1000000000) : ∃ r, Ev (fun q => burnishref52_LowerBound.f q W R Lat P B t0 t1 t2 t3 t4) r ∧ IsLow W R Lat B r := by
 have hl := hB.len
 unfold burnishref52_LowerBound.f
 have hv := rvalid_f W R Lat hLl
 cases hvb : validB W R Lat with
 | false =>
  rw [hvb] at hv
  refine ⟨0, Ev.bind hv (Ev.of (fun q => by rw [if_neg (by simp)]) (Ev.fix (fun q => ?_))), .inl ⟨.inl hvb, rfl⟩⟩
  rw [burnishref52_LowerBound.j0, if_pos rfl]
 | true =>
  rw [hvb] at hv
  by_cases hn : B.length = 0
  ·refine ⟨0, Ev.bind hv (Ev.of (fun q => by rw [if_pos rfl]) (Ev.fix (fun q => ?_))), .inl ⟨.inr hn, rfl⟩⟩
   rw [burnishref52_LowerBound.j0, if_pos (by rw [hn]; rfl)]
  ·have hS := insS_ok (B := B) hvb hl
   have hW := (validB_iff hvb).2.1
   have hqb := quo_bd (n := B.length) ⟨by omega, hl⟩ hW
   obtain ⟨T, hT, hp⟩ := rh_f W R Lat P B t0 t1 t2 t3 t4 hB hS
   have hTl : T.length = B.length := hp.len
   have h2 := rlow_l0 T (by omega) T.length 0 (Int.tdiv ((B.length : Int) - 1) W + 1) (by omega)
   refine ⟨_, Ev.bind hv (Ev.of (fun q => by rw [if_pos rfl]) (Ev.suc (h := fun q => (burnishref52_Dependences.f q P B t0 t1 t2 t3 t4).bind fun D => (burnishref52_heights.f q W R Lat P B t0 t1 t2 t3 t4 D).bind fun U => burnishref52_LowerBound.l0 q (Int.tdiv ((B.length : Int) - 1) W + 1) U (U.length : Int) 0) (fun q => ?_) (Ev.bind (G := fun q D => (burnishref52_heights.f q W R Lat P B t0 t1 t2 t3 t4 D).bind fun U => burnishref52_LowerBound.l0 q (Int.tdiv ((B.length : Int) - 1) W + 1) U (U.length : Int) 0) (rdeps_f P B t0 t1 t2 t3 t4 hB) (Ev.bind (G := fun q U => burnishref52_LowerBound.l0 q (Int.tdiv ((B.length : Int) - 1) W + 1) U (U.length : Int) 0) hT h2)))), .inr ⟨hvb, by omega, T, hp, ?_⟩⟩
   ·rw [burnishref52_LowerBound.j0, if_neg (by simpa using hn), if_neg (by omega), w64m ((B.length : Int) - 1) (by omega) (by omega), w64m (Int.tdiv ((B.length : Int) - 1) W) (by omega) (by omega), w64m (Int.tdiv ((B.length : Int) - 1) W + 1) (by omega) (by omega)]
   ·rw [List.drop_zero]
    exact foldl_mx T _
end Go.Proofs.YtjacphcbiaacnaaDoor
end

section
/- The example of chapter 52's awake, in plain lists. -/
set_option linter.unusedVariables false
set_option linter.unusedSimpArgs false
namespace Go.Proofs.YtjacphcbiaacnaaDoor
open Go.RowKit Go.Proofs.YtjacphcbiaacnaaDoorW.PrintWords Go.Proofs.YtjacphcbiaacnaaDoorW.PrintMore Go.Proofs.YtjacphcbiaacnaaDoor.PDigraphTells Sc
/-- The example's instructions. -/
def exB : List S48 := [⟨1, 3, 0, [], 1, 0, 0, false⟩, ⟨1, 3, 1, [], 2, 0, 0, false⟩, ⟨5, 3, 2, [0, 1], 0, 0, 0, false⟩]
theorem ex_sml : sml exB := ⟨by decide, fun i hi => by
 have hi : i < 3 := hi
 rcases i with _ | _ | _ | i
 ·decide
 ·decide
 ·decide
 ·omega⟩
theorem ex_valid : validB 2 8 [] = true := by decide
theorem ex_dep : depL exB = [[], [], [0, 1]] := by decide
theorem ex_hp : Hp (insS 2 [] exB) [2, 2, 1] 0 := by
 refine ⟨rfl, fun i _ hi => ?_, fun i _ hi => ?_, fun i k _ h1 h2 h3 => ?_⟩
 ·have hi : i < 3 := hi
  rcases i with _ | _ | _ | i
  ·exact .inr ⟨2, by decide, by decide, by decide, by decide⟩
  ·exact .inr ⟨2, by decide, by decide, by decide, by decide⟩
  ·exact .inl (by decide)
  ·omega
 ·have hi : i < 3 := hi
  rcases i with _ | _ | _ | i
  ·decide
  ·decide
  ·decide
  ·omega
 ·have h2 : k < 3 := h2
  rcases k with _ | _ | _ | k
  ·omega
  ·have e : i = 0 := by omega
   subst e
   exact absurd h3 (by decide)
  ·rcases i with _ | _ | i
   ·decide
   ·decide
   ·omega
  ·omega
theorem ex_fin : Fin (insS 2 [] exB) [2, 2, 1] (run (insS 2 [] exB) (fun i => rd [2, 2, 1] (i : Int)) 3 0 st0) := ⟨ex_hp, ⟨3, by decide, rfl⟩, by decide⟩
theorem ex_isB : IsB 2 8 [] exB [0, 1, 2] [0, 0, 1] := .inr ⟨ex_valid, _, _, ex_fin, by decide, by decide⟩
theorem ex_low : IsLow 2 8 [] exB 2 := .inr ⟨ex_valid, by decide, _, ex_hp, .inl (by decide), by decide, by decide⟩
theorem ex_len : lenF [] exB [0, 1, 2] [0, 0, 1] 0 = 2 := by decide
end Go.Proofs.YtjacphcbiaacnaaDoor
end

