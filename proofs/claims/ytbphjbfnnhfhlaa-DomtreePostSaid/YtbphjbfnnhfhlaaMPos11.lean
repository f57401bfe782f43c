import Derived.Laws.EntriesVeiled
import Derived.Test.YtbphjbfnnhfhlaaMPos10
section
/- The walks of domtree's solver: fill, common, best. -/
set_option linter.unusedVariables false
set_option linter.unusedSimpArgs false
namespace Go.Proofs.Ytbphjbfnnhfhlaa
open Go.RowKit Go.Proofs.YtbphjbfnnhfhlaaW.PrintWords Go.Proofs.Ytbphjbfnnhfhlaa.PDigraphTells Mem

theorem dr_cell {w wi : World} (h : Drawn0 w wi) (a : Addr) : wi.cell? a = w.cell? a := by obtain ⟨n, rfl⟩ := h.out; rfl
/-- The solver as its methods read it: ranks R and parents T. -/
structure Sr (w : World) (p gr gt n cr ct : Nat) (RL TL : List Int) : Prop where
  c1 : w.cell? ⟨p, 1, none⟩ = some (.slice (some ⟨gr, 0, none⟩) n cr)
  c2 : w.cell? ⟨p, 2, none⟩ = some (.slice (some ⟨gt, 0, none⟩) n ct)
  r : ∀ x : Int, 0 ≤ x → x < n → w.cell? ⟨gr, x.toNat, none⟩ = some (.int .i64 (rd RL x))
  t : ∀ x : Int, 0 ≤ x → x < n → w.cell? ⟨gt, x.toNat, none⟩ = some (.int .i64 (rd TL x))
  rl : RL.length = n
  tl : TL.length = n
theorem Sr.drawn {w wi : World} {p gr gt n cr ct : Nat} {RL TL : List Int} (h : Sr w p gr gt n cr ct RL TL) (hD : Drawn0 w wi) : Sr wi p gr gt n cr ct RL TL :=
  ⟨by rw [dr_cell hD]; exact h.c1, by rw [dr_cell hD]; exact h.c2, fun x a b => by rw [dr_cell hD]; exact h.r x a b, fun x a b => by rw [dr_cell hD]; exact h.t x a b, h.rl, h.tl⟩
/-- a is set, a node, of rank k. -/
structure At (n : Nat) (r T : Int → Int) (RL TL : List Int) (a k : Int) : Prop where
  lo : 0 ≤ a
  hi : a < n
  t0 : 0 ≤ T a
  rk : rd RL a = k
  rk2 : r a = k
  tt : rd TL a = T a
  k0 : 0 ≤ k
/-- What the walk needs of ranks and parents. -/
structure Wf (n : Nat) (r T : Int → Int) (e : Int) (RL TL : List Int) : Prop where
  wf : Dm.WF r e T
  rk : ∀ x : Int, 0 ≤ x → x < n → rd RL x = r x
  tt : ∀ x : Int, 0 ≤ x → x < n → rd TL x = T x
  nd : ∀ x : Int, 0 ≤ r x → x < n
theorem Wf.at {n : Nat} {r T : Int → Int} {e : Int} {RL TL : List Int} (h : Wf n r T e RL TL) {a : Int} (ha : 0 ≤ T a) : At n r T RL TL a (r a) := by
  obtain ⟨h1, h2⟩ := h.wf.nn a ha
  have h3 := h.nd a h2
  exact ⟨h1, h3, ha, h.rk a h1 h3, rfl, h.tt a h1 h3, h2⟩
/-- On the way to the common ancestor. -/
structure Com (r T : Int → Int) (a b x y : Int) : Prop where
  x0 : 0 ≤ T x
  y0 : 0 ≤ T y
  ax : Dm.Anc T x a
  ay : Dm.Anc T y b
  all : ∀ v, Dm.Anc T v a → Dm.Anc T v b → Dm.Anc T v x ∧ Dm.Anc T v y
theorem Com.left {n : Nat} {r T : Int → Int} {e : Int} {RL TL : List Int} (h : Wf n r T e RL TL) {a b x y : Int} (c : Com r T a b x y) (hlt : r y < r x) : Com r T a b (T x) y ∧ r (T x) < r x := by
  have hy := (h.wf.nn y c.y0).2
  have hxe : x ≠ e := fun e1 => by have := h.wf.r0; rw [e1] at hlt; omega
  obtain ⟨h1, h2⟩ := h.wf.down x c.x0 hxe
  refine ⟨⟨h1, c.y0, (h.wf.parent c.x0 hxe).trans c.ax, c.ay, fun v ha hb => ?_⟩, h2⟩
  obtain ⟨i1, i2⟩ := c.all v ha hb
  have h3 := (h.wf.anc_le i2).1
  exact ⟨(i1.up (fun e1 => by rw [e1] at h3; omega)).2, i2⟩
theorem Com.right {n : Nat} {r T : Int → Int} {e : Int} {RL TL : List Int} (h : Wf n r T e RL TL) {a b x y : Int} (c : Com r T a b x y) (hlt : r x < r y) : Com r T a b x (T y) ∧ r (T y) < r y := by
  have hx := (h.wf.nn x c.x0).2
  have hye : y ≠ e := fun e1 => by have := h.wf.r0; rw [e1] at hlt; omega
  obtain ⟨h1, h2⟩ := h.wf.down y c.y0 hye
  refine ⟨⟨c.x0, h1, c.ax, (h.wf.parent c.y0 hye).trans c.ay, fun v ha hb => ?_⟩, h2⟩
  obtain ⟨i1, i2⟩ := c.all v ha hb
  have h3 := (h.wf.anc_le i1).1
  exact ⟨i1, (i2.up (fun e1 => by rw [e1] at h3; omega)).2⟩
theorem or_down {r : Int → Int} {x x2 x3 : Int} (h : x2 = x ∨ r x2 < r x) (h2 : r x3 < r x2) : x3 = x ∨ r x3 < r x := by
  rcases h with e4 | e4
  · subst e4; exact .inr h2
  · exact .inr (by omega)
theorem Com.pos {n : Nat} {r T : Int → Int} {e : Int} {RL TL : List Int} (h : Wf n r T e RL TL) {a b x y : Int} (c : Com r T a b x y) (hn : x ≠ y) {q : Nat} (hq : (r x).toNat + (r y).toNat ≤ q) : 1 ≤ q := by
  have hxn := h.wf.nn x c.x0
  have hyn := h.wf.nn y c.y0
  have hin := h.wf.inj x y hxn.2
  have h1 : r x ≠ r y := fun e1 => hn (hin e1)
  omega
theorem Com.less {n : Nat} {r T : Int → Int} {e : Int} {RL TL : List Int} (h : Wf n r T e RL TL) {a b x y x2 y2 : Int} (c : Com r T a b x y) (hn : x ≠ y) (c2 : Com r T a b x2 y2) (i1 : x2 = x ∨ r x2 < r x) (i2 : r x2 ≤ r y) (i3 : y2 = y ∨ r y2 < r y) (i4 : r y2 ≤ r x2) {q : Nat} (hq : (r x).toNat + (r y).toNat ≤ q + 1) : (r x2).toNat + (r y2).toNat ≤ q := by
  have hxn := h.wf.nn x c.x0
  have hyn := h.wf.nn y c.y0
  have hxn2 := h.wf.nn x2 c2.x0
  have hyn2 := h.wf.nn y2 c2.y0
  have hin := h.wf.inj x y hxn.2
  have h1 : r x ≠ r y := fun e1 => hn (hin e1)
  rcases i1 with i1 | i1 <;> rcases i3 with i3 | i3
  · subst i1; subst i3; omega
  · subst i1; omega
  · subst i3; omega
  · omega
/-- The deepest common ancestor of a and b. -/
structure Nc (T : Int → Int) (a b m : Int) : Prop where
  pr : 0 ≤ T m
  l : Dm.Anc T m a
  r : Dm.Anc T m b
  max : ∀ v, Dm.Anc T v a → Dm.Anc T v b → Dm.Anc T v m

set_option maxRecDepth 100000 in
set_option maxHeartbeats 2000000 in
theorem common_any {n : Nat} {r T : Int → Int} {e : Int} {RL TL : List Int} (h : Wf n r T e RL TL) (a b : Int) (p gr gt cr ct : Nat) (w : World) (hS : Sr w p gr gt n cr ct RL TL) (ha : 0 ≤ T a) (hb : 0 ≤ T b) :
    Calls Try.prog 47 #[.pointer (some ⟨p, 0, none⟩), .int .i64 a, .int .i64 b] w fun e' w' => ∃ m, e' = .returned (.int .i64 m) ∧ Nc T a b m ∧ Drawn0 w w' := by
  have hX := Aside0.mk (And.intro h hS)
  have hst : Aside0 (Com r T a b a b) := ⟨⟨ha, hb, .refl ha, .refl hb, fun v h1 h2 => ⟨h1, h2⟩⟩⟩
  clear h hS ha hb
  go_enter Try.func47, Try.ntmps47
  go_wp2_with fail
  go_loopg [1, 2] ((r a).toNat + (r b).toNat) (fun q va vb wi => ∃ x y : Int, va = .int .i64 x ∧ vb = .int .i64 y ∧ Aside0 (Com r T a b x y ∧ Drawn0 w wi ∧ (r x).toNat + (r y).toNat ≤ q))
  case atStart => exact ⟨a, b, rfl, rfl, hst.out, Drawn0.refl _, Nat.le_refl _⟩
  case round =>
    obtain ⟨x, y, rfl, rfl, hJ⟩ := hrel
    clear hst
    by_cases hxy : x = y
    · subst hxy
      have hN : Aside0 (Nc T a b x ∧ Drawn0 w wr) := ⟨⟨hJ.out.1.x0, hJ.out.1.ax, hJ.out.1.ay, fun v h1 h2 => (hJ.out.1.all v h1 h2).1⟩, hJ.out.2.1⟩
      clear hJ
      go_wp2
      go_ret
      exact ⟨x, rfl, hN.out⟩
    · have e1 : (x != y) = true := by simpa using hxy
      have e2 : (x == y) = false := by simpa using hxy
      have hne := Aside0.mk hxy
      have hpos := Com.pos hX.out.1 hJ.out.1 hxy hJ.out.2.2
      obtain ⟨gk1, rfl⟩ : ∃ q, gk = q + 1 := ⟨gk - 1, by omega⟩
      have hgk1 : gk1 < gk1 + 1 := by omega
      clear hxy hpos
      go_wp2_with fail
      clear e1 e2
      have hI0 : Aside0 (Com r T a b x y ∧ Drawn0 w wr ∧ (x = x ∨ r x < r x)) := ⟨hJ.out.1, hJ.out.2.1, .inl rfl⟩
      go_loopg [1] (r x).toNat (fun q va wi => ∃ x2 : Int, va = .int .i64 x2 ∧ Aside0 (Com r T a b x2 y ∧ Drawn0 w wi ∧ (x2 = x ∨ r x2 < r x) ∧ (r x2).toNat ≤ q))
      case atStart => exact ⟨x, rfl, hI0.out.1, hI0.out.2.1, .inl rfl, Nat.le_refl _⟩
      case round =>
        obtain ⟨x2, rfl, hK⟩ := hrel
        clear hI0
        obtain ⟨p1, p2, p3, p4, p5, p6, p7⟩ := hX.out.1.at hK.out.1.x0
        obtain ⟨q1, q2, q3, q4, q5, q6, q7⟩ := hX.out.1.at hK.out.1.y0
        have hs := hX.out.2.drawn hK.out.2.1
        have d1 := hs.c1
        have d2 := hs.r x2 p1 p2
        have d3 := hs.r y q1 q2
        rw [p4] at d2
        rw [q4] at d3
        by_cases hlt : r y < r x2
        · obtain ⟨hc, hr⟩ := hK.out.1.left hX.out.1 hlt
          obtain ⟨gk2, rfl⟩ : ∃ q, gk = q + 1 := ⟨gk - 1, by have := hK.out.2.2.2; omega⟩
          have hgk2 : gk2 < gk2 + 1 := by omega
          have d4 := hs.c2
          have d5 := hs.t x2 p1 p2
          rw [p6] at d5
          have e3 : decide (r y < r x2) = true := decide_eq_true hlt
          have hm : (r (T x2)).toNat ≤ gk2 := by have := hK.out.2.2.2; omega
          have hor : T x2 = x ∨ r (T x2) < r x := or_down hK.out.2.2.1 hr
          obtain ⟨x3, hx3⟩ : ∃ x3, T x2 = x3 := ⟨_, rfl⟩
          obtain ⟨ry, hry⟩ : ∃ ry, r y = ry := ⟨_, rfl⟩
          obtain ⟨rx, hrx⟩ : ∃ rx, r x2 = rx := ⟨_, rfl⟩
          rw [hx3] at d5 hc hm hor
          rw [hry] at d3 e3
          rw [hrx] at d2 e3
          have hI := Aside0.mk (And.intro hc (And.intro hK.out.2.1 (And.intro hor hm)))
          clear hc hr hm hor hs p3 p4 p5 p6 p7 q3 q4 q5 q6 q7 hlt hx3 hry hrx hK
          go_wp2_with fail
          go_quiet (fail)
          go_wp2_with fail
          go_roundg gk2
          case rel => exact ⟨x3, rfl, hI.out.1, hI.out.2.1.step nq, hI.out.2.2⟩
          case measure => exact hgk2
        · have e3 : decide (r y < r x2) = false := decide_eq_false hlt
          have hle : Aside0 (r x2 ≤ r y) := ⟨by omega⟩
          obtain ⟨ry, hry⟩ : ∃ ry, r y = ry := ⟨_, rfl⟩
          obtain ⟨rx, hrx⟩ : ∃ rx, r x2 = rx := ⟨_, rfl⟩
          rw [hry] at d3 e3
          rw [hrx] at d2 e3
          clear hs p3 p4 p5 p6 p7 q3 q4 q5 q6 q7 hlt hry hrx
          go_wp2_with fail
          go_quiet (fail)
          go_wp2_with fail
          clear d1 d2 d3 e3 p1 p2 q1 q2
          have hI1 : Aside0 (Com r T a b x2 y ∧ Drawn0 w (wr.drewN nq) ∧ (x2 = x ∨ r x2 < r x) ∧ r x2 ≤ r y) := ⟨hK.out.1, hK.out.2.1.step nq, hK.out.2.2.1, hle.out⟩
          clear hK hle
          go_loopg [2] (r y).toNat (fun q vb wi => ∃ y2 : Int, vb = .int .i64 y2 ∧ Aside0 (Com r T a b x2 y2 ∧ Drawn0 w wi ∧ (y2 = y ∨ r y2 < r y) ∧ (r y2).toNat ≤ q))
          case atStart => exact ⟨y, rfl, hI1.out.1, hI1.out.2.1, .inl rfl, Nat.le_refl _⟩
          case round =>
            obtain ⟨y2, rfl, hK⟩ := hrel
            obtain ⟨p1, p2, p3, p4, p5, p6, p7⟩ := hX.out.1.at hK.out.1.x0
            obtain ⟨q1, q2, q3, q4, q5, q6, q7⟩ := hX.out.1.at hK.out.1.y0
            have hs := hX.out.2.drawn hK.out.2.1
            have d1 := hs.c1
            have d2 := hs.r x2 p1 p2
            have d3 := hs.r y2 q1 q2
            rw [p4] at d2
            rw [q4] at d3
            by_cases hlt : r x2 < r y2
            · obtain ⟨hc, hr⟩ := hK.out.1.right hX.out.1 hlt
              obtain ⟨gk2, rfl⟩ : ∃ q, gk = q + 1 := ⟨gk - 1, by have := hK.out.2.2.2; omega⟩
              have hgk2 : gk2 < gk2 + 1 := by omega
              have d4 := hs.c2
              have d5 := hs.t y2 q1 q2
              rw [q6] at d5
              have e3 : decide (r x2 < r y2) = true := decide_eq_true hlt
              have hm : (r (T y2)).toNat ≤ gk2 := by have := hK.out.2.2.2; omega
              have hor : T y2 = y ∨ r (T y2) < r y := or_down hK.out.2.2.1 hr
              obtain ⟨y3, hy3⟩ : ∃ y3, T y2 = y3 := ⟨_, rfl⟩
              obtain ⟨ry, hry⟩ : ∃ ry, r y2 = ry := ⟨_, rfl⟩
              obtain ⟨rx, hrx⟩ : ∃ rx, r x2 = rx := ⟨_, rfl⟩
              rw [hy3] at d5 hc hm hor
              rw [hry] at d3 e3
              rw [hrx] at d2 e3
              have hI := Aside0.mk (And.intro hc (And.intro hK.out.2.1 (And.intro hor hm)))
              clear hc hr hm hor hs p3 p4 p5 p6 p7 q3 q4 q5 q6 q7 hlt hy3 hry hrx hK
              go_wp2_with fail
              go_quiet (fail)
              go_wp2_with fail
              go_roundg gk2
              case rel => exact ⟨y3, rfl, hI.out.1, hI.out.2.1.step nq, hI.out.2.2⟩
              case measure => exact hgk2
            · have e3 : decide (r x2 < r y2) = false := decide_eq_false hlt
              have hsum := Com.less hX.out.1 hJ.out.1 hne.out hK.out.1 hI1.out.2.2.1 hI1.out.2.2.2 hK.out.2.2.1 (by omega) hJ.out.2.2
              have hI := Aside0.mk (And.intro hK.out.1 (And.intro hK.out.2.1 hsum))
              obtain ⟨ry, hry⟩ : ∃ ry, r y2 = ry := ⟨_, rfl⟩
              obtain ⟨rx, hrx⟩ : ∃ rx, r x2 = rx := ⟨_, rfl⟩
              rw [hry] at d3 e3
              rw [hrx] at d2 e3
              clear hs p3 p4 p5 p6 p7 q3 q4 q5 q6 q7 hlt hsum hry hrx hK
              go_wp2_with fail
              go_quiet (fail)
              go_wp2_with fail
              go_roundg gk1
              case rel => exact ⟨x2, y2, rfl, rfl, hI.out.1, hI.out.2.1.step nq, hI.out.2.2⟩
              case measure => exact hgk1
def fillX (n : Nat) (x : Int) (i : Nat) : List Int := List.replicate i x ++ List.replicate (n - i) 0
theorem fillX_len {n : Nat} {x : Int} {i : Nat} (h : i ≤ n) : (fillX n x i).length = n := by simp [fillX]; omega
theorem fillX_set (n : Nat) (x : Int) (i : Nat) (h : i < n) : (fillX n x i).set ((i : Int)).toNat x = fillX n x (i + 1) := by
  unfold fillX
  rw [Int.toNat_natCast, List.set_append_right _ _ (by simp), List.length_replicate, Nat.sub_self, show n - i = (n - (i + 1)) + 1 by omega, List.replicate_succ, List.set_cons_zero, List.replicate_succ', List.append_assoc]
  rfl
set_option maxRecDepth 100000 in
set_option maxHeartbeats 2000000 in
theorem fill_any (n : Nat) (x : Int) (w : World) (hn : n ≤ 70000) :
    Calls Try.prog 33 #[.int .i64 (n : Int), .int .i64 x] w fun e w' => ∃ v, e = .returned v ∧ Kd.R (Kd.int .i64) 3 w' 0 (fun k => w.heap.size ≤ k) v (List.replicate n x) ∧ Below w.heap.size w w' := by
  go_enter Try.func33, Try.ntmps33
  go_wp2_with (at_make; refine Kd.R_make (Kd.int .i64) (w0 := w) 0 3 (by rfl) (N := 8) (by rfl) 28 (.tmp 7) (.tmp 7) (by rfl) (n : Int) (by rfl) (by rfl) Try.underlying28 (.int .i64 0) 8 info3 rfl (by decide) (by decide) 0 (ok := fun k => w.heap.size ≤ k) (okp := fun _ => False) rfl (fun _ h => h.elim) (Nat.le_refl _) (by omega) (by omega) ((Kp.refl (fun _ => False) w).belowB (fun _ h => h.elim) (Nat.zero_le _)) (Nat.zero_le _) ?_; intro v7 w7 hRA hBA hgA hatA; rw [Int.toNat_natCast] at hRA; have hb7 : Below w.heap.size w w7 := ((Kp.refl (fun _ => False) w).grown hgA (fun k hk => by cases hk)).none_below; obtain ⟨A, cap, ev, hx, Cx⟩ := Kd.R_reads hRA; rw [List.length_replicate] at ev; subst ev; clear hx Cx; have hI0 : Aside0 (Kd.R (Kd.int .i64) 3 w7 0 (fun k => w.heap.size ≤ k) (.slice A n cap) (List.replicate n 0) ∧ Below w.heap.size w w7) := ⟨hRA, hb7⟩; clear hRA hBA hgA hatA hb7)
  go_wp2_with fail
  go_loopg [11] n (fun q v wi => ∃ i : Nat, i + q = n ∧ v = .int .i64 (i : Int) ∧ Aside0 (Kd.R (Kd.int .i64) 3 wi 0 (fun k => w.heap.size ≤ k) (.slice A n cap) (fillX n x i) ∧ Below w.heap.size w wi))
  case atStart => exact ⟨0, by omega, rfl, ⟨by simpa [fillX] using hI0.out⟩⟩
  case round =>
    obtain ⟨i, hi, rfl, hJ⟩ := hrel
    clear hI0
    by_cases hlt : i < n
    · have hlti : (i : Int) < n := by omega
      obtain ⟨gk1, rfl⟩ : ∃ q, gk = q + 1 := ⟨gk - 1, by omega⟩
      have hi1 : i + 1 + gk1 = n := by omega
      have hgk1 : gk1 < gk1 + 1 := by omega
      obtain ⟨g, cap', ev, _⟩ := Kd.R_form hJ.out.1 (by rw [fillX_len (by omega)]; omega)
      injection ev with e1 e2 e3
      subst e1
      clear e2 e3
      obtain ⟨s0, f0⟩ := Kd.R_celln 0 hJ.out.1 (i : Int) (by omega) hlti
      have hk : Kp (fun k => w.heap.size ≤ k) wr (wr.setCell ⟨g, ((i : Int)).toNat, none⟩ (.int .i64 x)) := (Kp.refl _ wr).setCell (p := ⟨g, ((i : Int)).toNat, none⟩) (.inl (hJ.out.1.1 g rfl)) _
      have hput := And.intro (Kd.R_putg hJ.out.1 (i : Int) x).1 (hJ.out.2.trans (hk.belowB (B := w.heap.size) (fun k hk => hk) hJ.out.2.size))
      rw [fillX_set n x i hlt] at hput
      rw [Int.toNat_natCast] at s0 f0 hput
      have hI := Aside0.mk hput
      clear hput hJ hk
      go_wp2
      go_roundg gk1
      case rel => exact ⟨i + 1, hi1, by go_num, hI⟩
      case measure => exact hgk1
    · have hie : i = n := by omega
      subst hie
      have hEnd : Aside0 (Kd.R (Kd.int .i64) 3 wr 0 (fun k => w.heap.size ≤ k) (.slice A i cap) (List.replicate i x) ∧ Below w.heap.size w wr) := ⟨by simpa [fillX] using hJ.out⟩
      clear hJ
      go_wp2
      go_ret
      exact ⟨_, rfl, hEnd.out⟩

/-- The best parent after some predecessors. -/
def Bst (r T : Int → Int) (l : List Int) (d : Int) : Prop :=
  (d = -1 ∧ ∀ p ∈ l, ¬ (0 ≤ r p ∧ 0 ≤ T p)) ∨ (0 ≤ T d ∧ 0 ≤ d ∧ (∀ p ∈ l, 0 ≤ r p → 0 ≤ T p → Dm.Anc T d p) ∧ ∀ v, (∀ p ∈ l, 0 ≤ r p → 0 ≤ T p → Dm.Anc T v p) → Dm.Anc T v d)
theorem Bst.skip {r T : Int → Int} {l : List Int} {d p : Int} (h : Bst r T l d) (hp : ¬ (0 ≤ r p ∧ 0 ≤ T p)) : Bst r T (l ++ [p]) d := by
  rcases h with ⟨h1, h2⟩ | ⟨h1, h0, h2, h3⟩
  · refine .inl ⟨h1, fun q hq => ?_⟩
    rcases List.mem_append.1 hq with hq | hq
    · exact h2 q hq
    · rw [List.mem_singleton.1 hq]; exact hp
  · refine .inr ⟨h1, h0, fun q hq a b => ?_, fun v hv => h3 v fun q hq => hv q (List.mem_append_left _ hq)⟩
    rcases List.mem_append.1 hq with hq | hq
    · exact h2 q hq a b
    · rw [List.mem_singleton.1 hq] at a b; exact absurd ⟨a, b⟩ hp
theorem Bst.first {r T : Int → Int} {l : List Int} {p : Int} (h : Bst r T l (-1)) (h0 : 0 ≤ p) (hp : 0 ≤ T p) (hr : 0 ≤ r p) : Bst r T (l ++ [p]) p := by
  rcases h with ⟨_, h2⟩ | ⟨_, h4, _⟩
  · refine .inr ⟨hp, h0, fun q hq a b => ?_, fun v hv => hv p (by simp) hr hp⟩
    rcases List.mem_append.1 hq with hq | hq
    · exact absurd ⟨a, b⟩ (h2 q hq)
    · rw [List.mem_singleton.1 hq]; exact .refl hp
  · omega
theorem Bst.next {r T : Int → Int} {l : List Int} {d p m : Int} (h : Bst r T l d) (hd : 0 ≤ d) (hm0 : 0 ≤ m) (hp : 0 ≤ T p) (hr : 0 ≤ r p) (hm : Nc T d p m) : Bst r T (l ++ [p]) m := by
  rcases h with ⟨h1, _⟩ | ⟨_, _, h2, h3⟩
  · omega
  · refine .inr ⟨hm.pr, hm0, fun q hq a b => ?_, fun v hv => hm.max v (h3 v fun q hq => hv q (List.mem_append_left _ hq)) (hv p (by simp) hr hp)⟩
    rcases List.mem_append.1 hq with hq | hq
    · exact hm.l.trans (h2 q hq a b)
    · rw [List.mem_singleton.1 hq]; exact hm.r

set_option maxRecDepth 100000 in
set_option maxHeartbeats 2000000 in
theorem best_any {n : Nat} {r T : Int → Int} {e : Int} {RL TL : List Int} (h : Wf n r T e RL TL) (x : Int) (hx0 : 0 ≤ x) (hx1 : x < n) (p gr gt cr ct cp : Nat) (Ap : Option Addr) (PL : List (List Int)) (w : World) (hS : Sr w p gr gt n cr ct RL TL)
    (hP : Kd.C kG w Ap n PL) (hc0 : w.cell? ⟨p, 0, none⟩ = some (.slice Ap n cp)) (hrow : ∀ q ∈ rd_L1 PL x, 0 ≤ q ∧ q < n) (hl : (rd_L1 PL x).length ≤ 70000) :
    Calls Try.prog 34 #[.pointer (some ⟨p, 0, none⟩), .int .i64 x] w fun e' w' => ∃ d, e' = .returned (.int .i64 d) ∧ Bst r T (rd_L1 PL x) d ∧ Drawn0 w w' := by
  obtain ⟨ga, Ar, car, eA, r0, rl, rC⟩ := at_L1 hP x hx0 hx1
  subst eA
  obtain ⟨row, hrw⟩ : ∃ row, rd_L1 PL x = row := ⟨_, rfl⟩
  rw [hrw] at r0 rl rC hrow hl ⊢
  have hX := Aside0.mk (And.intro h (And.intro hS (And.intro hrow rC)))
  clear hrw hP h hS hrow rC rl
  go_enter Try.func34, Try.ntmps34
  go_wp2_with fail
  clear r0 hc0
  go_loopg [5, 16] row.length (fun q vd v wi => ∃ (j : Nat) (d : Int), j + q = row.length ∧ v = .int .i64 (j : Int) ∧ vd = .int .i64 d ∧ Aside0 (Bst r T (row.take j) d ∧ Drawn0 w wi))
  case atStart => exact ⟨0, -1, by omega, rfl, rfl, .inl ⟨rfl, by simp⟩, Drawn0.refl _⟩
  case round =>
    obtain ⟨j, d, hj, rfl, rfl, hJ⟩ := hrel
    by_cases hltj : j < row.length
    · have hltji : (j : Int) < row.length := by omega
      obtain ⟨gk3, rfl⟩ : ∃ q, gk = q + 1 := ⟨gk - 1, by omega⟩
      have hj1 : j + 1 + gk3 = row.length := by omega
      have hgk3 : gk3 < gk3 + 1 := by omega
      have hs := hX.out.2.1.drawn hJ.out.2
      obtain ⟨ad, eA, x0⟩ := Kd.at_int hX.out.2.2.2 (j : Int) (by omega) hltji
      rw [← dr_cell hJ.out.2, rd_get row j hltj, Int.toNat_natCast] at x0
      subst eA
      have hsn : row.take (j + 1) = row.take j ++ [row[j]] := List.take_succ_eq_append_getElem hltj
      obtain ⟨k1, k2⟩ := hX.out.2.2.1 row[j] (List.getElem_mem hltj)
      obtain ⟨k, hk⟩ : ∃ k, k = row[j] := ⟨_, rfl⟩
      rw [← hk] at x0 hsn k1 k2
      have d1 := hs.c1
      have d2 := hs.c2
      have d3 := hs.r k k1 k2
      have d4 := hs.t k k1 k2
      rw [hX.out.1.rk k k1 k2] at d3
      rw [hX.out.1.tt k k1 k2] at d4
      have hsn := Aside0.mk hsn
      clear hk hs
      by_cases hr0 : r k < 0
      · have hI : Aside0 (Bst r T (row.take (j + 1)) d ∧ Drawn0 w wr) := ⟨by rw [hsn.out]; exact hJ.out.1.skip (by omega), hJ.out.2⟩
        obtain ⟨rk, hrk⟩ : ∃ rk, r k = rk := ⟨_, rfl⟩
        rw [hrk] at d3 hr0
        clear hJ hsn hrk d2 d4
        go_wp2_with fail
        go_roundg gk3
        case rel => exact ⟨j + 1, d, hj1, by go_num, rfl, hI⟩
        case measure => exact hgk3
      · by_cases ht0 : T k < 0
        · have hI : Aside0 (Bst r T (row.take (j + 1)) d ∧ Drawn0 w wr) := ⟨by rw [hsn.out]; exact hJ.out.1.skip (by omega), hJ.out.2⟩
          obtain ⟨rk, hrk⟩ : ∃ rk, r k = rk := ⟨_, rfl⟩
          obtain ⟨tk, htk⟩ : ∃ tk, T k = tk := ⟨_, rfl⟩
          rw [hrk] at d3 hr0
          rw [htk] at d4 ht0
          clear hJ hsn hrk htk
          go_wp2_with fail
          go_roundg gk3
          case rel => exact ⟨j + 1, d, hj1, by go_num, rfl, hI⟩
          case measure => exact hgk3
        · by_cases hd : d < 0
          · have hI : Aside0 (Bst r T (row.take (j + 1)) k ∧ Drawn0 w wr) := ⟨by
              have hdm : d = -1 := by rcases hJ.out.1 with ⟨h1, _⟩ | ⟨_, h1, _⟩ <;> omega
              rw [hsn.out]; have := hJ.out.1; rw [hdm] at this; exact this.first k1 (by omega) (by omega), hJ.out.2⟩
            obtain ⟨rk, hrk⟩ : ∃ rk, r k = rk := ⟨_, rfl⟩
            obtain ⟨tk, htk⟩ : ∃ tk, T k = tk := ⟨_, rfl⟩
            rw [hrk] at d3 hr0
            rw [htk] at d4 ht0
            clear hJ hsn hrk htk
            go_wp2_with fail
            go_roundg gk3
            case rel => exact ⟨j + 1, k, hj1, by go_num, rfl, hI⟩
            case measure => exact hgk3
          · have hcall := common_any hX.out.1 d k p gr gt cr ct wr (hX.out.2.1.drawn hJ.out.2) (by rcases hJ.out.1 with ⟨h1, _⟩ | ⟨h1, _⟩ <;> omega) (by omega)
            have hT := Aside0.mk (And.intro (show 0 ≤ T k by omega) (show 0 ≤ r k by omega))
            obtain ⟨rk, hrk⟩ : ∃ rk, r k = rk := ⟨_, rfl⟩
            obtain ⟨tk, htk⟩ : ∃ tk, T k = tk := ⟨_, rfl⟩
            rw [hrk] at d3 hr0
            rw [htk] at d4 ht0
            have hcall := Aside0.mk hcall
            have hd1 := Aside0.mk (show 0 ≤ d by omega)
            clear hrk htk
            go_wp2_with fail
            refine hcall.out.mono ?_
            rintro e' w2 ⟨m, rfl, hm, hD⟩
            have hI : Aside0 (Bst r T (row.take (j + 1)) m ∧ Drawn0 w w2) := ⟨by
              rw [hsn.out]; exact hJ.out.1.next hd1.out (hX.out.1.wf.nn m hm.pr).1 hT.out.1 hT.out.2 hm, by obtain ⟨n1, h1⟩ := hJ.out.2.out; obtain ⟨n2, h2⟩ := hD.out; exact ⟨⟨n1 + n2, by rw [h2, h1, World.drewN_drewN]⟩⟩⟩
            clear hJ hsn hm hD hcall d1 d2 d3 d4 x0
            go_wp2_with fail
            go_roundg gk3
            case rel => exact ⟨j + 1, m, hj1, by go_num, rfl, hI⟩
            case measure => exact hgk3
    · have hEnd : Aside0 (Bst r T row d ∧ Drawn0 w wr) := ⟨by have := hJ.out; rw [List.take_of_length_le (by omega)] at this; exact this⟩
      clear hJ
      go_wp2
      go_ret
      exact ⟨d, rfl, hEnd.out⟩
end Go.Proofs.Ytbphjbfnnhfhlaa
end

section
/- Dominators of a graph in plain lists: what Build computes. -/
set_option linter.unusedVariables false
set_option linter.unusedSimpArgs false
set_option linter.unusedSectionVars false
namespace Go.Proofs.Ytbphjbfnnhfhlaa
open Go.RowKit Go.Proofs.YtbphjbfnnhfhlaaW.PrintWords Go.Proofs.Ytbphjbfnnhfhlaa.PDigraphTells Mem

/-- x can be reached from e on a way that does not meet a. -/
inductive RA (ad : Int → List Int) (e a : Int) : Int → Prop
  | base (h : e ≠ a) : RA ad e a e
  | step {p x : Int} (h : RA ad e a p) (hx : x ∈ ad p) (hn : x ≠ a) : RA ad e a x
theorem RA.reach {ad : Int → List Int} {e a x : Int} (h : RA ad e a x) : Grf.Reach ad e x := by
  induction h with
  | base => exact .refl _
  | step _ hx _ ih => exact .tail ih hx
theorem RA.ne {ad : Int → List Int} {e a x : Int} (h : RA ad e a x) : x ≠ a := by
  cases h with
  | base h => exact h
  | step _ _ h => exact h
/-- d dominates x. -/
def domG (G : List (List Int)) (e d x : Int) : Prop := Grf.Reach (adj G) e x ∧ ¬ RA (adj G) e d x
/-- The list of the immediate dominators. -/
structure Idm (G : List (List Int)) (e : Int) (l : List Int) : Prop where
  len : l.length = G.length
  out : ∀ x, isNode G x → ¬ Grf.Reach (adj G) e x → rd l x = -1
  root : rd l e = e
  up : ∀ x, Grf.Reach (adj G) e x → x ≠ e → domG G e (rd l x) x ∧ rd l x ≠ x ∧ ∀ v, domG G e v x → v ≠ x → domG G e v (rd l x)
def edgeG (G : List (List Int)) (p x : Int) : Prop := isNode G p ∧ x ∈ adj G p
section
variable {G : List (List Int)} {e : Int} (h : chk G = 0 ∧ isNode G e)
include h
theorem rk_reach {x : Int} : 0 ≤ pos (post G e).reverse x ↔ Grf.Reach (adj G) e x := by rw [pos_nonneg, rpo_mem h]
theorem gd_of : Dm.Gd (pos (post G e).reverse) e (edgeG G) (domG G e) := by
  refine ⟨fun x hx hxe => ?_, fun x hx => (reach_node h ((rk_reach h).1 hx)).1, fun d p y hd hdy hE hp => ⟨(rk_reach h).1 hp, fun hr => hd.2 (.step hr hE.2 (Ne.symm hdy))⟩, fun d hd => ?_⟩
  · rcases after_final h ((rk_reach h).1 hx) with h1 | h1
    · exact absurd h1 hxe
    · obtain ⟨⟨m, k⟩, hm, hp⟩ := List.any_eq_true.1 h1
      unfold pA at hp
      simp only [Bool.and_eq_true, decide_eq_true_eq, beq_iff_eq] at hp
      obtain ⟨h2, h3, h4⟩ := hp
      subst h2
      exact ⟨m, (mem_pairs G m k).1 hm, h3, h4⟩
  · by_cases h1 : d = e
    · exact h1
    · exact absurd (.base (Ne.symm h1)) hd.2
theorem full_idm {T : List Int} (hl : T.length = G.length) (hF : Dm.Full (pos (post G e).reverse) e (edgeG G) (domG G e) (distOf T))
    (hfix : ∀ x, x ≠ e → 0 ≤ pos (post G e).reverse x → Dm.Nca (pos (post G e).reverse) (edgeG G) (distOf T) x (distOf T x)) (hneg : ∀ x, isNode G x → 0 ≤ distOf T x ∨ distOf T x = -1) : Idm G e T := by
  have g := gd_of h
  have hrd : ∀ x, isNode G x → rd T x = distOf T x := fun x hx => distOf_rd T x hx.1 (by rw [hl]; exact hx.2)
  have hdom : ∀ v x, Grf.Reach (adj G) e x → (Dm.Anc (distOf T) v x ↔ domG G e v x) := by
    intro v x hx
    constructor
    · intro ha
      refine ⟨hx, fun hr => ?_⟩
      have key : ∀ y, RA (adj G) e v y → ¬ Dm.Anc (distOf T) v y := by
        intro y hy
        induction hy with
        | base h1 => intro h2; exact h1 (hF.wf.anc_e h2).symm
        | @step p y h1 h2 h3 ih =>
          intro h4
          have hp := (rk_reach h).2 h1.reach
          exact ih (hF.not_dom g hfix hp ((rk_reach h).2 (h1.reach.tail h2)) ⟨reach_node h h1.reach, h2⟩ (Ne.symm h3) h4)
      exact key x hr ha
    · intro hd
      exact hF.dom g ((rk_reach h).2 hx) hd
  refine ⟨hl, fun x hx hr => ?_, by rw [hrd e h.2]; exact hF.wf.root, fun x hx hxe => ?_⟩
  · rw [hrd x hx]
    rcases hneg x hx with h1 | h1
    · exact absurd ((rk_reach h).1 (hF.wf.nn x h1).2) hr
    · exact h1
  · have hxn := reach_node h hx
    have hx0 := hF.all x ((rk_reach h).2 hx)
    rw [hrd x hxn]
    have hd := hF.wf.down x hx0 hxe
    have hTr : Grf.Reach (adj G) e (distOf T x) := (rk_reach h).1 (hF.wf.nn _ hd.1).2
    refine ⟨(hdom _ x hx).1 (hF.wf.parent hx0 hxe), hF.wf.self hx0 hxe, fun v hv hvx => (hdom v _ hTr).1 ((hdom v x hx).2 hv |>.up hvx).2⟩
theorem idm_uniq {l m : List Int} (hl : Idm G e l) (hm : Idm G e m) : l = m := by
  refine distOf_ext (by rw [hl.len, hm.len]) fun x h0 h1 => ?_
  rw [hl.len] at h1
  rw [← distOf_rd l x h0 (by rw [hl.len]; exact h1), ← distOf_rd m x h0 (by rw [hm.len]; exact h1)]
  by_cases hr : Grf.Reach (adj G) e x
  · by_cases hxe : x = e
    · subst hxe; rw [hl.root, hm.root]
    · obtain ⟨a1, a2, a3⟩ := hl.up x hr hxe
      obtain ⟨b1, b2, b3⟩ := hm.up x hr hxe
      have h2 := a3 _ b1 b2
      have h3 := b3 _ a1 a2
      -- two nodes that dominate each other are one
      have key : ∀ u v, domG G e u v → domG G e v u → u = v := by
        intro u v huv hvu
        by_cases h9 : u = v
        · exact h9
        · exfalso
          -- the first of the two on a way from e
          have hw : ∀ y, Grf.Reach (adj G) e y → RA (adj G) e u y ∨ RA (adj G) e v y ∨ y = y ∧ (∃ z, (z = u ∨ z = v) ∧ RA (adj G) e (if z = u then v else u) z) := by
            intro y hy
            induction hy with
            | refl =>
              by_cases e1 : e = u
              · subst e1
                exact .inr (.inl (.base h9))
              · exact .inl (.base e1)
            | @tail b y hb hy ih =>
              rcases ih with ih | ih | ih
              · by_cases e1 : y = u
                · -- b avoids u; does the way to b avoid v? it is decided below
                  by_cases e2 : RA (adj G) e v b
                  · exact .inr (.inr ⟨rfl, u, .inl rfl, by rw [if_pos rfl]; exact .step e2 (by rw [← e1]; exact hy) h9⟩)
                  · -- v dominates b, so b's way meets v, and v is met without u
                    have hvb : domG G e v b := ⟨hb, e2⟩
                    have : RA (adj G) e u v := by
                      have hgo : ∀ z, RA (adj G) e u z → ¬ RA (adj G) e v z → RA (adj G) e u v := by
                        intro z hz
                        induction hz with
                        | base h5 => intro h6; by_cases e3 : e = v
                                     · subst e3; exact .base h5
                                     · exact absurd (.base e3) h6
                        | @step p z h5 h6 h7 ih2 =>
                          intro h8
                          by_cases e3 : z = v
                          · subst e3; exact .step h5 h6 h7
                          · by_cases e4 : RA (adj G) e v p
                            · exact absurd (.step e4 h6 e3) h8
                            · exact ih2 e4
                      exact hgo b ih e2
                    exact absurd this huv.2
                · exact .inl (.step ih hy e1)
              · by_cases e1 : y = v
                · by_cases e2 : RA (adj G) e u b
                  · exact .inr (.inr ⟨rfl, v, .inr rfl, by rw [if_neg (Ne.symm h9)]; exact .step e2 (by rw [← e1]; exact hy) (Ne.symm h9)⟩)
                  · have : RA (adj G) e v u := by
                      have hgo : ∀ z, RA (adj G) e v z → ¬ RA (adj G) e u z → RA (adj G) e v u := by
                        intro z hz
                        induction hz with
                        | base h5 => intro h6; by_cases e3 : e = u
                                     · subst e3; exact .base h5
                                     · exact absurd (.base e3) h6
                        | @step p z h5 h6 h7 ih2 =>
                          intro h8
                          by_cases e3 : z = u
                          · subst e3; exact .step h5 h6 h7
                          · by_cases e4 : RA (adj G) e u p
                            · exact absurd (.step e4 h6 e3) h8
                            · exact ih2 e4
                      exact hgo b ih e2
                    exact absurd this hvu.2
                · exact .inr (.inl (.step ih hy e1))
              · exact .inr (.inr ⟨rfl, ih.2⟩)
          have hfin : ∀ z, (z = u ∨ z = v) → RA (adj G) e (if z = u then v else u) z → False := by
            intro z hz hr2
            rcases hz with rfl | rfl
            · rw [if_pos rfl] at hr2; exact hvu.2 hr2
            · rw [if_neg (Ne.symm h9)] at hr2; exact huv.2 hr2
          rcases hw v huv.1 with h5 | h5 | h5
          · exact huv.2 h5
          · exact h5.ne rfl
          · obtain ⟨_, z, hz, hr2⟩ := h5
            exact hfin z hz hr2
      exact key _ _ h3 h2
  · have hxn : isNode G x := ⟨h0, h1⟩
    rw [hl.out x hxn hr, hm.out x hxn hr]
end

/-- How far the parents T are from the root, all ranks added. -/
def mu (n : Nat) (r T : Int → Int) (L : List Int) : Nat := (L.map fun x => if T x < 0 then n else (r (T x)).toNat).sum
theorem sum_le (f g : Int → Nat) : ∀ L : List Int, (∀ x ∈ L, f x ≤ g x) → (L.map f).sum ≤ (L.map g).sum
  | [], _ => Nat.le_refl _
  | a :: L, h => by
    have := sum_le f g L (fun x hx => h x (List.mem_cons_of_mem _ hx))
    have := h a List.mem_cons_self
    simp only [List.map_cons, List.sum_cons]
    omega
theorem sum_lt (f g : Int → Nat) : ∀ L : List Int, (∀ x ∈ L, f x ≤ g x) → (∃ x ∈ L, f x < g x) → (L.map f).sum < (L.map g).sum
  | [], _, h => by obtain ⟨x, hx, _⟩ := h; cases hx
  | a :: L, h, he => by
    have h1 := sum_le f g L (fun x hx => h x (List.mem_cons_of_mem _ hx))
    have h2 := h a List.mem_cons_self
    obtain ⟨x, hx, hlt⟩ := he
    simp only [List.map_cons, List.sum_cons]
    rcases List.mem_cons.1 hx with rfl | hx
    · omega
    · have := sum_lt f g L (fun x hx => h x (List.mem_cons_of_mem _ hx)) ⟨x, hx, hlt⟩
      omega
theorem mu_put {n : Nat} {r T : Int → Int} {L : List Int} {x w : Int} (hx : x ∈ L) (hw : 0 ≤ w) (hr0 : 0 ≤ r w) (hn : r w < n) (h : 0 ≤ T x → r w < r (T x)) : mu n r (Dm.put T x w) L < mu n r T L := by
  unfold mu
  refine sum_lt _ _ L (fun y hy => ?_) ⟨x, hx, ?_⟩
  · by_cases e1 : y = x
    · subst e1
      rw [Dm.put_at, if_neg (by omega)]
      split
      · omega
      · rename_i h1; have := h (by omega); omega
    · rw [Dm.put_ne _ e1]; exact Nat.le_refl _
  · rw [Dm.put_at, if_neg (by omega)]
    split
    · omega
    · rename_i h1; have := h (by omega); omega
end Go.Proofs.Ytbphjbfnnhfhlaa
end

section
/- The reversed graph in plain lists. -/
set_option linter.unusedVariables false
set_option linter.unusedSimpArgs false
namespace Go.Proofs.Ytbphjbfnnhfhlaa
open Go.RowKit Go.Proofs.YtbphjbfnnhfhlaaW.PrintWords Go.Proofs.Ytbphjbfnnhfhlaa.PDigraphTells Mem

theorem pred_len {G : List (List Int)} (h : chk G = 0) : (predL G).length = G.length := by unfold predL; rw [if_pos h, List.length_map, nodes_len]
theorem pred_adj {G : List (List Int)} (h : chk G = 0) {b : Int} (hb : isNode G b) : adj (predL G) b = pvU G G.length b := by
  unfold isNode at hb
  have hl : b.toNat < (predL G).length := by rw [pred_len h]; omega
  have e : b = (b.toNat : Int) := by omega
  rw [e, adj_nat _ _ hl]
  unfold predL nodes
  simp only [if_pos h, List.getElem_map, List.getElem_range]
end Go.Proofs.Ytbphjbfnnhfhlaa
end

section
/- One pass of Build in plain lists. -/
set_option linter.unusedVariables false
set_option linter.unusedSimpArgs false
set_option linter.unusedSectionVars false
namespace Go.Proofs.Ytbphjbfnnhfhlaa
open Go.RowKit Go.Proofs.YtbphjbfnnhfhlaaW.PrintWords Go.Proofs.Ytbphjbfnnhfhlaa.PDigraphTells Mem

theorem distOf_put (TL : List Int) (x d : Int) (h0 : 0 ≤ x) (h1 : x < TL.length) : distOf (TL.set x.toNat d) = Dm.put (distOf TL) x d := by
  rw [distOf_set TL x d h0 h1]; rfl
/-- Inside a pass, up to rank i; ch: something has changed; m0: how far the parents were at the pass's start. -/
structure Ps (G : List (List Int)) (e : Int) (L : List Int) (s : Option (Int → Int)) (TL : List Int) (i : Int) (ch : Bool) (m0 : Nat) : Prop where
  mid : Dm.Mid (pos L) e (edgeG G) (domG G e) s (distOf TL) i
  fix : ch = false → ∀ y, y ≠ e → 0 ≤ pos L y → pos L y < i → Dm.Nca (pos L) (edgeG G) (distOf TL) y (distOf TL y)
  m1 : mu G.length (pos L) (distOf TL) L ≤ m0
  m2 : ch = true → mu G.length (pos L) (distOf TL) L < m0
  neg : ∀ x, isNode G x → 0 ≤ distOf TL x ∨ distOf TL x = -1
  len : TL.length = G.length
/-- At the head of the passes. -/
structure Hd (G : List (List Int)) (e : Int) (L : List Int) (TL : List Int) (ch : Bool) (q : Nat) : Prop where
  go : ch = true → (∃ s, Dm.Mid (pos L) e (edgeG G) (domG G e) s (distOf TL) 1) ∧ mu G.length (pos L) (distOf TL) L + 1 ≤ q
  stop : ch = false → Dm.Full (pos L) e (edgeG G) (domG G e) (distOf TL) ∧ ∀ y, y ≠ e → 0 ≤ pos L y → Dm.Nca (pos L) (edgeG G) (distOf TL) y (distOf TL y)
  neg : ∀ x, isNode G x → 0 ≤ distOf TL x ∨ distOf TL x = -1
  len : TL.length = G.length
section
variable {G : List (List Int)} {e : Int} (h : chk G = 0 ∧ isNode G e) {L : List Int} (hL : L = (post G e).reverse)
include h hL
theorem gdL : Dm.Gd (pos L) e (edgeG G) (domG G e) := by rw [hL]; exact gd_of h
theorem posL_e : pos L e = 0 := by
  obtain ⟨t, ht⟩ := rpo_head h
  rw [hL, ht]
  unfold pos
  rw [if_pos List.mem_cons_self, List.idxOf_cons_self]
  rfl
theorem Ps.wf {s : Option (Int → Int)} {TL RL : List Int} {i : Int} {ch : Bool} {m0 : Nat} (p : Ps G e L s TL i ch m0) (hR : RL = posL G L) : Wf G.length (pos L) (distOf TL) e RL TL := by
  refine ⟨p.mid.wf, fun x a b => by rw [hR]; exact posL_get G L x ⟨a, b⟩, fun x a b => distOf_rd TL x a (by rw [p.len]; exact b), fun x hx => ?_⟩
  rw [hL] at hx
  exact (reach_node h ((rk_reach h).1 hx)).2
theorem pass_start {TL : List Int} {q : Nat} (p : Hd G e L TL true (q + 1)) : ∃ s, Ps G e L s TL 1 false q := by
  obtain ⟨⟨s, hm⟩, hq⟩ := p.go rfl
  refine ⟨s, hm, fun _ y hy a b => ?_, by omega, (fun h => by cases h), p.neg, p.len⟩
  exact absurd (hm.wf.inj y e a (by rw [hm.wf.r0]; omega)) hy
theorem pass_end {s : Option (Int → Int)} {TL : List Int} {ch : Bool} {q : Nat} (p : Ps G e L s TL L.length ch q) : Hd G e L TL ch q := by
  have g := gdL h hL
  have hall : ∀ x, pos L x < L.length := fun x => by
    by_cases hx : x ∈ L
    · exact (pos_in hx).2
    · rw [pos_out hx]; omega
  have hF := p.mid.finish g hall
  exact ⟨fun hc => ⟨⟨_, hF.begin g⟩, p.m2 hc⟩, fun hc => ⟨hF, fun y a b => p.fix hc y a b (hall y)⟩, p.neg, p.len⟩
theorem bst_nca {s : Option (Int → Int)} {TL : List Int} {i : Int} {ch : Bool} {m0 : Nat} (p : Ps G e L s TL i ch m0) {x d : Int} (hx : pos L x = i) (hi : 0 < i) (hb : Bst (pos L) (distOf TL) (rd_L1 (predL G) x) d) :
    Dm.Nca (pos L) (edgeG G) (distOf TL) x d ∧ isNode G d := by
  have g := gdL h hL
  have hxe : x ≠ e := fun e1 => by rw [e1, posL_e h hL] at hx; omega
  obtain ⟨u, f1, f2, f3⟩ := g.fwd x (by omega) hxe
  have hxn : isNode G x := by
    have : 0 ≤ pos L x := by omega
    rw [hL] at this
    exact reach_node h ((rk_reach h).1 this)
  have hmem : ∀ p, p ∈ rd_L1 (predL G) x ↔ edgeG G p x := fun p => by
    have e1 : rd_L1 (predL G) x = pvU G G.length x := pred_adj h.1 hxn
    rw [e1, mem_pvU]
    rfl
  have hu := p.mid.set g f2 (by omega)
  rcases hb with ⟨_, h2⟩ | ⟨h1, h0, h2, h3⟩
  · exact absurd ⟨f2, hu⟩ (h2 u ((hmem u).2 f1))
  · refine ⟨⟨h1, fun q a b c => h2 q ((hmem q).2 a) b c, fun v hv => h3 v fun q hq b c => hv q ((hmem q).1 hq) b c⟩, ?_⟩
    have := (p.mid.wf.nn d h1).2
    rw [hL] at this
    exact reach_node h ((rk_reach h).1 this)
theorem pass_same {s : Option (Int → Int)} {TL : List Int} {i : Int} {ch : Bool} {m0 : Nat} (p : Ps G e L s TL i ch m0) {x d : Int} (hx : pos L x = i) (hi : 0 < i) (hd : Dm.Nca (pos L) (edgeG G) (distOf TL) x d) (he : d = distOf TL x) : Ps G e L s TL (i + 1) ch m0 := by
  have g := gdL h hL
  obtain ⟨h1, _, _⟩ := p.mid.step g hx hi hd
  rw [he, Dm.put_same] at h1
  refine ⟨h1, fun hc y a b c => ?_, p.m1, p.m2, p.neg, p.len⟩
  by_cases e1 : pos L y = i
  · have := h1.wf.inj y x b (by omega)
    subst this
    rw [← he]; exact hd
  · exact p.fix hc y a b (by omega)
theorem pass_new {s : Option (Int → Int)} {TL : List Int} {i : Int} {ch : Bool} {m0 : Nat} (p : Ps G e L s TL i ch m0) {x d : Int} (hx : pos L x = i) (hi : 0 < i) (hd : Dm.Nca (pos L) (edgeG G) (distOf TL) x d) (he : d ≠ distOf TL x) : Ps G e L s (TL.set x.toNat d) (i + 1) true m0 := by
  have g := gdL h hL
  have hxm : x ∈ L := pos_nonneg.1 (by omega)
  have hxn : isNode G x := by
    have : 0 ≤ pos L x := by omega
    rw [hL] at this
    exact reach_node h ((rk_reach h).1 this)
  have hln : L.length ≤ G.length := by rw [hL, List.length_reverse]; exact post_len G e
  obtain ⟨h1, h2, h3⟩ := p.mid.step g hx hi hd
  have hdn := p.mid.wf.nn d hd.pr
  have hlt := mu_put (n := G.length) (L := L) hxm hdn.1 hdn.2 (by have := pos_in hxm; omega) (fun a => h3 a he)
  have hp := distOf_put TL x d hxn.1 (by rw [p.len]; exact hxn.2)
  have hm := p.m1
  refine ⟨by rw [hp]; exact h1, (fun hc => by cases hc), by rw [hp]; omega, fun _ => by rw [hp]; omega, fun y hy => ?_, by rw [List.length_set]; exact p.len⟩
  rw [hp]
  by_cases e1 : y = x
  · subst e1; rw [Dm.put_at]; exact .inl hdn.1
  · rw [Dm.put_ne _ e1]; exact p.neg y hy
theorem hd_start : Hd G e L ((List.replicate G.length (-1)).set e.toNat e) true (G.length * G.length + 1) := by
  have hen := h.2
  have hp : distOf ((List.replicate G.length (-1)).set e.toNat e) = Dm.put (fun _ => -1) e e := by
    rw [distOf_put _ e e hen.1 (by rw [List.length_replicate]; exact hen.2), distOf_neg]
  have he0 := posL_e h hL
  have hln : L.length ≤ G.length := by rw [hL, List.length_reverse]; exact post_len G e
  have hs : ∀ x, 0 ≤ Dm.put (fun _ => -1) e e x ↔ x = e := fun x => by
    by_cases e1 : x = e
    · subst e1; rw [Dm.put_at]; exact ⟨fun _ => rfl, fun _ => hen.1⟩
    · rw [Dm.put_ne _ e1]; exact ⟨fun h9 => by omega, fun h9 => absurd h9 e1⟩
  have hinj : ∀ x y, 0 ≤ pos L x → pos L x = pos L y → x = y := fun x y a b => pos_inj (pos_nonneg.1 a) b
  refine ⟨fun _ => ⟨⟨none, ?_⟩, ?_⟩, (fun hc => by cases hc), fun x hx => ?_, by rw [List.length_set, List.length_replicate]⟩
  · rw [hp]
    refine ⟨⟨Dm.put_at _ _ _, hen.1, he0, fun x hx => ?_, fun x hx hxe => absurd ((hs x).1 hx) hxe, hinj⟩, fun _ x hx => ?_, (fun T hT => by cases hT), fun x u a b c => ?_, fun x a b c => ?_, fun y d hy hy0 => absurd ((hs y).1 hy0) hy⟩
    · rw [(hs x).1 hx]; exact ⟨hen.1, by omega⟩
    · rw [hs x]
      exact ⟨fun e1 => by rw [e1]; omega, fun e1 => hinj x e hx (by omega)⟩
    · exact absurd (hinj x e b (by omega)) a
    · exact absurd (hinj x e b (by omega)) a
  · have hle : mu G.length (pos L) (distOf ((List.replicate G.length (-1)).set e.toNat e)) L ≤ (L.map fun _ => G.length).sum := by
      rw [hp]
      unfold mu
      refine sum_le _ _ L fun x hx => ?_
      by_cases e1 : x = e
      · subst e1; rw [Dm.put_at]; split
        · exact Nat.le_refl _
        · omega
      · rw [Dm.put_ne _ e1, if_pos (by omega)]; exact Nat.le_refl _
    have h2 : ∀ M : List Int, (M.map fun _ => G.length).sum = M.length * G.length := by
      intro M
      induction M with
      | nil => simp
      | cons a M ih => simp only [List.map_cons, List.sum_cons, List.length_cons, ih, Nat.add_mul]; omega
    rw [h2] at hle
    have h3 : L.length * G.length ≤ G.length * G.length := Nat.mul_le_mul_right _ hln
    omega
  · rw [hp]
    by_cases e1 : x = e
    · subst e1; rw [Dm.put_at]; exact .inl hen.1
    · rw [Dm.put_ne _ e1]; exact .inr rfl
theorem hd_idm {TL : List Int} {q : Nat} (p : Hd G e L TL false q) : Idm G e TL := by
  obtain ⟨h1, h2⟩ := p.stop rfl
  subst hL
  exact full_idm h p.len h1 h2 p.neg
end
/-- A row from its second element on. -/
theorem row_from1 {A : Option Addr} {c : Nat} {l : List Int} (hn : 1 ≤ l.length) (hc : l.length ≤ c) :
    ∃ X, (∀ W : World, (Instr.slice 28 (.slice A l.length c) (some (.int .i64 1)) none none).run Try.prog W = .ok (.slice X (l.length - 1) (c - 1)) W) ∧ ∀ W, Kd.C (Kd.int .i64) W A l.length l → Kd.C (Kd.int .i64) W X (l.drop 1).length (l.drop 1) := by
  obtain ⟨i0, hi, hz⟩ : ∃ i0, Try.prog.info? 3 = some i0 ∧ i0.size = 1 := ⟨_, rfl, by kernel_rfl⟩
  refine ⟨if c = 1 then A else A.map (·.add (1 * 1)), fun W => ?_, fun W h => Kd.C_drop h hn hc⟩
  have := cut_from 28 3 .i64 Try.underlying28 hi 1 hz A l.length c 1 (by omega) (by omega) W
  rw [this]
  rfl
/-- The node of rank i. -/
theorem pos_at {L : List Int} (hnd : L.Nodup) (i : Nat) (h : i < L.length) : pos L L[i] = (i : Int) := by
  unfold pos
  rw [if_pos (List.getElem_mem h)]
  rw [List.Nodup.idxOf_getElem hnd i h]
end Go.Proofs.Ytbphjbfnnhfhlaa
end

section
/- Trees given by lists of parents, in plain lists: depths and ways up. -/
set_option linter.unusedVariables false
set_option linter.unusedSimpArgs false
set_option linter.unusedSectionVars false
namespace Go.Proofs.Ytbphjbfnnhfhlaa
open Go.RowKit Go.Proofs.YtbphjbfnnhfhlaaW.PrintWords Go.Proofs.Ytbphjbfnnhfhlaa.PDigraphTells Mem

def idx (l : List Int) (x : Int) : Prop := 0 ≤ x ∧ x < l.length
instance (l : List Int) (x : Int) : Decidable (idx l x) := by unfold idx; infer_instance
/-- x lies k steps below an index that is its own element. -/
inductive Up (l : List Int) : Int → Nat → Prop
  | root {x : Int} (h : idx l x) (e : rd l x = x) : Up l x 0
  | step {x : Int} {k : Nat} (h : idx l x) (e : rd l x ≠ x) (u : Up l (rd l x) k) : Up l x (k + 1)
/-- y lies on the way up from x. -/
inductive On (l : List Int) (y : Int) : Int → Prop
  | refl : On l y y
  | step {x : Int} (h : idx l x) (e : rd l x ≠ x) (u : On l y (rd l x)) : On l y x
theorem Up.idx {l : List Int} {x : Int} {k : Nat} (h : Up l x k) : idx l x := by cases h <;> assumption
theorem Up.uniq {l : List Int} {x : Int} {k j : Nat} (h : Up l x k) (h2 : Up l x j) : k = j := by
  induction h generalizing j with
  | root h e => cases h2 with
    | root => rfl
    | step _ e2 _ => exact absurd e e2
  | step h e u ih => cases h2 with
    | root _ e2 => exact absurd e2 e
    | step _ _ u2 => rw [ih u2]
theorem Up.pred {l : List Int} {x : Int} {k : Nat} (h : Up l x k) (e : rd l x ≠ x) : ∃ j, k = j + 1 ∧ Up l (rd l x) j := by
  cases h with
  | root _ e2 => exact absurd e2 e
  | step _ _ u => exact ⟨_, rfl, u⟩
theorem Up.on {l : List Int} {y x : Int} {k : Nat} (h : Up l x k) (o : On l y x) : ∃ j, j ≤ k ∧ Up l y j := by
  induction o generalizing k with
  | refl => exact ⟨k, Nat.le_refl _, h⟩
  | step _ e _ ih =>
    obtain ⟨j, rfl, u⟩ := h.pred e
    obtain ⟨i, hi, u2⟩ := ih u
    exact ⟨i, by omega, u2⟩
theorem Up.cyc {l : List Int} {x : Int} {k : Nat} (e : rd l x ≠ x) (o : On l x (rd l x)) : ¬ Up l x k := by
  intro h
  obtain ⟨j, rfl, u⟩ := h.pred e
  obtain ⟨i, hi, u2⟩ := u.on o
  have := h.uniq u2
  omega
theorem Up.chain {l : List Int} {x : Int} {k : Nat} (h : Up l x k) : ∃ L : List Int, L.length = k + 1 ∧ L.Nodup ∧ ∀ y ∈ L, Go.Proofs.Ytbphjbfnnhfhlaa.idx l y ∧ ∃ j, j ≤ k ∧ Up l y j := by
  induction h with
  | @root x h e => exact ⟨[x], rfl, by simp, fun y hy => by rw [List.mem_singleton.1 hy]; exact ⟨h, 0, Nat.le_refl _, .root h e⟩⟩
  | @step x k h e u ih =>
    obtain ⟨L, h1, h2, h3⟩ := ih
    refine ⟨x :: L, by rw [List.length_cons, h1], List.nodup_cons.2 ⟨fun hx => ?_, h2⟩, fun y hy => ?_⟩
    · obtain ⟨_, j, hj, u2⟩ := h3 x hx
      have := (Up.step h e u).uniq u2
      omega
    · rcases List.mem_cons.1 hy with rfl | hy
      · exact ⟨h, k + 1, Nat.le_refl _, .step h e u⟩
      · obtain ⟨h4, j, hj, u2⟩ := h3 y hy
        exact ⟨h4, j, by omega, u2⟩
theorem Up.lt {l : List Int} {x : Int} {k : Nat} (h : Up l x k) : k < l.length := by
  obtain ⟨L, h1, h2, h3⟩ := h.chain
  have := nodup_len L (nodes (List.replicate l.length [])) h2 (fun y hy => (mem_nodes _ y).2 (by
    have := (h3 y hy).1
    unfold Go.Proofs.Ytbphjbfnnhfhlaa.idx at this
    unfold isNode
    rw [List.length_replicate]
    exact this))
  rw [nodes_len, List.length_replicate] at this
  omega
theorem rd_set (d : List Int) (x v y : Int) (hx : idx d x) (hy : 0 ≤ y) : rd (d.set x.toNat v) y = if y = x then v else rd d y := by
  unfold idx at hx
  unfold rd
  rw [List.getD_eq_getElem?_getD, List.getD_eq_getElem?_getD, List.getElem?_set]
  by_cases e : y = x
  · subst e; rw [if_pos rfl, if_pos rfl, if_pos (by omega)]; rfl
  · rw [if_neg e, if_neg (by omega)]

/-- What the depths hold while the search goes on: -2 not met, -3 being visited, else the depth. -/
structure Dp (l d : List Int) : Prop where
  len : d.length = l.length
  at_ : ∀ x, idx l x → rd d x = -2 ∨ rd d x = -3 ∨ ∃ k : Nat, rd d x = k ∧ Up l x k
/-- What a visit answers. -/
structure Vis (l d : List Int) (x : Int) (b : Bool) (d' : List Int) : Prop where
  yes : b = true → Dp l d' ∧ (∃ k : Nat, rd d' x = k ∧ Up l x k) ∧ (∀ y, idx l y → (rd d' y = -3 ↔ rd d y = -3)) ∧ ∀ y, idx l y → rd d' y = -2 → rd d y = -2
  no : b = false → (∀ k, ¬ Up l x k) ∨ ∃ y, idx l y ∧ rd d y = -3 ∧ On l y x
def cnt2 (d : List Int) : Nat := (d.filter (· == -2)).length
theorem cnt2_set : ∀ (d : List Int) (i : Nat) (h : i < d.length), d[i] = -2 → ∀ v, v ≠ -2 → cnt2 (d.set i v) + 1 = cnt2 d
  | a :: d, 0, _, e, v, hv => by
    have e : a = -2 := e
    subst e
    unfold cnt2
    rw [List.set_cons_zero, List.filter_cons, List.filter_cons, if_neg (by simpa using hv), if_pos (by simp), List.length_cons]
  | a :: d, i + 1, h, e, v, hv => by
    have := cnt2_set d i (by simpa using h) (by simpa using e) v hv
    unfold cnt2 at this ⊢
    rw [List.set_cons_succ, List.filter_cons, List.filter_cons]
    split <;> (try simp only [List.length_cons]) <;> omega
section
variable {l d : List Int} {x : Int} (hx : idx l x) (h : Dp l d)
include hx h
theorem vis_set (hs : rd d x ≠ -2) : Vis l d x (decide (0 ≤ rd d x)) d := by
  constructor
  · intro hb
    have hb := of_decide_eq_true hb
    refine ⟨h, ?_, fun y _ => Iff.rfl, fun y _ h9 => h9⟩
    rcases h.at_ x hx with h1 | h1 | h1
    · omega
    · omega
    · exact h1
  · intro hb
    have hb := of_decide_eq_false hb
    rcases h.at_ x hx with h1 | h1 | ⟨k, h1, _⟩
    · exact absurd h1 hs
    · exact .inr ⟨x, hx, h1, .refl⟩
    · omega
theorem act (hs : rd d x = -2) : Dp l (d.set x.toNat (-3)) ∧ cnt2 (d.set x.toNat (-3)) + 1 = cnt2 d ∧ rd (d.set x.toNat (-3)) x = -3 ∧ ∀ y, idx l y → y ≠ x → rd (d.set x.toNat (-3)) y = rd d y := by
  have hxd : idx d x := by unfold idx at hx ⊢; rw [h.len]; exact hx
  refine ⟨⟨by rw [List.length_set]; exact h.len, fun y hy => ?_⟩, ?_, by rw [rd_set d x _ x hxd hx.1, if_pos rfl], fun y hy hn => by rw [rd_set d x _ y hxd hy.1, if_neg hn]⟩
  · rw [rd_set d x _ y hxd hy.1]
    split
    · exact .inr (.inl rfl)
    · exact h.at_ y hy
  · have hl : x.toNat < d.length := by unfold idx at hxd; omega
    refine cnt2_set d x.toNat hl ?_ (-3) (by omega)
    have := rd_get d x.toNat hl
    rw [Int.toNat_of_nonneg hx.1, hs] at this
    exact this.symm
theorem vis_root (hs : rd d x = -2) (hr : rd l x = x) : Vis l d x true ((d.set x.toNat (-3)).set x.toNat 0) := by
  have hxd : idx d x := by unfold idx at hx ⊢; rw [h.len]; exact hx
  have hg : ∀ y, idx l y → rd ((d.set x.toNat (-3)).set x.toNat 0) y = if y = x then 0 else rd d y := fun y hy => by
    rw [rd_set _ x _ y (by unfold idx at hxd ⊢; rw [List.length_set]; exact hxd) hy.1, rd_set d x _ y hxd hy.1]
    split <;> rfl
  refine ⟨fun _ => ⟨⟨by rw [List.length_set, List.length_set]; exact h.len, fun y hy => ?_⟩, ⟨0, by rw [hg x hx, if_pos rfl]; rfl, .root hx hr⟩, fun y hy => ?_, fun y hy h9 => ?_⟩, fun hb => by cases hb⟩
  · rw [hg y hy]
    split
    · rename_i e1; rw [e1]; exact .inr (.inr ⟨0, rfl, .root hx hr⟩)
    · exact h.at_ y hy
  · rw [hg y hy]
    split
    · rename_i e1; rw [e1, hs]; omega
    · exact Iff.rfl
  · rw [hg y hy] at h9
    split at h9
    · omega
    · exact h9
theorem vis_low (hr : rd l x < 0) (d' : List Int) : Vis l d x false d' := by
  refine ⟨fun hb => (by cases hb), fun _ => .inl fun k hu => ?_⟩
  have hne : rd l x ≠ x := by unfold idx at hx; omega
  obtain ⟨j, _, u⟩ := hu.pred hne
  have := u.idx.1
  omega
theorem vis_up_no (hs : rd d x = -2) (hr : rd l x ≠ x) {d2 : List Int} (hv : Vis l (d.set x.toNat (-3)) (rd l x) false d2) (d' : List Int) : Vis l d x false d' := by
  obtain ⟨_, _, h3, h4⟩ := act hx h hs
  refine ⟨fun hb => (by cases hb), fun _ => ?_⟩
  rcases hv.no rfl with h1 | ⟨y, hy, h1, o⟩
  · exact .inl fun k hu => by obtain ⟨j, _, u⟩ := hu.pred hr; exact h1 j u
  · by_cases e1 : y = x
    · subst e1; exact .inl fun k => Up.cyc hr o
    · exact .inr ⟨y, hy, by rw [← h4 y hy e1]; exact h1, .step hx hr o⟩
theorem vis_up_yes (hs : rd d x = -2) (hr : rd l x ≠ x) {d2 : List Int} (hv : Vis l (d.set x.toNat (-3)) (rd l x) true d2) : ∃ k : Nat, rd d2 (rd l x) = k ∧ k < l.length ∧ idx d2 x ∧ idx d2 (rd l x) ∧ Vis l d x true (d2.set x.toNat ((k : Int) + 1)) := by
  obtain ⟨_, _, h3, h4⟩ := act hx h hs
  obtain ⟨g1, ⟨k, g2, g3⟩, g4, g5⟩ := hv.yes rfl
  have hxd : idx d2 x := by unfold idx at hx ⊢; rw [g1.len]; exact hx
  have hg : ∀ y, idx l y → rd (d2.set x.toNat ((k : Int) + 1)) y = if y = x then (k : Int) + 1 else rd d2 y := fun y hy => rd_set d2 x _ y hxd hy.1
  have hux : Up l x (k + 1) := .step hx hr g3
  refine ⟨k, g2, g3.lt, hxd, by have := g3.idx; unfold idx at this ⊢; rw [g1.len]; exact this, fun _ => ⟨⟨by rw [List.length_set]; exact g1.len, fun y hy => ?_⟩, ⟨k + 1, by rw [hg x hx, if_pos rfl]; omega, hux⟩, fun y hy => ?_, fun y hy h9 => ?_⟩, fun hb => (by cases hb)⟩
  · rw [hg y hy]
    split
    · rename_i e1; rw [e1]; exact .inr (.inr ⟨k + 1, by omega, hux⟩)
    · exact g1.at_ y hy
  · rw [hg y hy]
    split
    · rename_i e1; rw [e1, hs]; omega
    · rename_i e1; rw [g4 y hy, h4 y hy e1]
  · rw [hg y hy] at h9
    split at h9
    · omega
    · rename_i e1; rw [← h4 y hy e1]; exact g5 y hy h9
end
end Go.Proofs.Ytbphjbfnnhfhlaa
end

section
/- The walk of depths' inner visit. -/
set_option linter.unusedVariables false
set_option linter.unusedSimpArgs false
set_option linter.unusedSectionVars false
namespace Go.Proofs.Ytbphjbfnnhfhlaa
open Go.RowKit Go.Proofs.YtbphjbfnnhfhlaaW.PrintWords Go.Proofs.Ytbphjbfnnhfhlaa.PDigraphTells Mem

/-- depths' variables in memory: the depths' row d (variable bd), the list l (variable bl), the visit itself (variable bv). -/
structure Dw (w wi : World) (n : Nat) (A : Option Addr) (cl bd bl bv : Nat) (Ad : Option Addr) (cd lo hi : Nat) (l d : List Int) : Prop where
  b : Below w.heap.size w wi
  C : Kd.C (Kd.int .i64) w A n l
  hd : wi.heap[bd]? = some (.cells #[.slice Ad n cd] 28 (0, 0))
  hl : wi.heap[bl]? = some (.cells #[.slice A n cl] 28 (0, 0))
  hv : wi.heap[bv]? = some (.cells #[.func (.func 48) #[] #[.pointer (some ⟨bd, 0, none⟩), .pointer (some ⟨bl, 0, none⟩), .pointer (some ⟨bv, 0, none⟩)]] 62 (0, 0))
  D : Kd.R (Kd.int .i64) 3 wi 0 (fun k => lo ≤ k ∧ k < hi) (.slice Ad n cd) d
  o1 : w.heap.size ≤ lo
  o2 : bl < lo
  o3 : hi ≤ bd
  o4 : hi ≤ bv
  ll : l.length = n
section
variable {w wi wj : World} {n : Nat} {A : Option Addr} {cl bd bl bv : Nat} {Ad : Option Addr} {cd lo hi : Nat} {l d : List Int} (h : Dw w wi n A cl bd bl bv Ad cd lo hi l d)
include h
theorem Dw.step (hb : Below wi.heap.size wi wj) : Dw w wj n A cl bd bl bv Ad cd lo hi l d :=
  ⟨h.b.trans (hb.mono h.b.size), h.C, (hb.block _ (blk_lt' h.hd)).trans h.hd, (hb.block _ (blk_lt' h.hl)).trans h.hl, (hb.block _ (blk_lt' h.hv)).trans h.hv, Kd.R_step h.D (fun k _ hlt => hb.block k hlt), h.o1, h.o2, h.o3, h.o4, h.ll⟩
theorem Dw.dl : d.length = n := (Kd.R_reads' h.D).1.symm
theorem Dw.row (hn : 0 < n) : ∃ g, Ad = some ⟨g, 0, none⟩ := by
  obtain ⟨g, cap, ev, _⟩ := Kd.R_form h.D (by rw [h.dl]; exact hn)
  injection ev with e1
  exact ⟨g, e1⟩
theorem Dw.cd_ : wi.cell? ⟨bd, 0, none⟩ = some (.slice Ad n cd) := cell_at h.hd rfl
theorem Dw.cl_ : wi.cell? ⟨bl, 0, none⟩ = some (.slice A n cl) := cell_at h.hl rfl
theorem Dw.cv_ : wi.cell? ⟨bv, 0, none⟩ = some (.func (.func 48) #[] #[.pointer (some ⟨bd, 0, none⟩), .pointer (some ⟨bl, 0, none⟩), .pointer (some ⟨bv, 0, none⟩)]) := cell_at h.hv rfl
theorem Dw.l_ {x : Int} (h0 : 0 ≤ x) (h1 : x < n) : ∃ ad, A = some ad ∧ wi.cell? (ad.add x.toNat) = some (.int .i64 (rd l x)) := Kd.at_int (Kd.C_below h.C h.b) x h0 h1
end
theorem Dw.d_ {w wi : World} {n : Nat} {A : Option Addr} {cl bd bl bv g cd lo hi : Nat} {l d : List Int} (h : Dw w wi n A cl bd bl bv (some ⟨g, 0, none⟩) cd lo hi l d) {x : Int} (h0 : 0 ≤ x) (h1 : x < n) : wi.cell? ⟨g, x.toNat, none⟩ = some (.int .i64 (rd d x)) ∧ wi.frozen? ⟨g, x.toNat, none⟩ = false := Kd.R_celln 0 h.D x h0 h1
theorem Dw.put {w wi : World} {n : Nat} {A : Option Addr} {cl bd bl bv g cd lo hi : Nat} {l d : List Int} (h : Dw w wi n A cl bd bl bv (some ⟨g, 0, none⟩) cd lo hi l d) (x v : Int) : Dw w (wi.setCell ⟨g, x.toNat, none⟩ (.int .i64 v)) n A cl bd bl bv (some ⟨g, 0, none⟩) cd lo hi l (d.set x.toNat v) := by
  have hg := h.D.1 g rfl
  have h1 := h.o1; have h2 := h.o2; have h3 := h.o3; have h4 := h.o4
  have hk : Kp (fun k => k = g) wi (wi.setCell ⟨g, x.toNat, none⟩ (.int .i64 v)) := (Kp.refl (fun k => k = g) wi).setCell (p := ⟨g, x.toNat, none⟩) (.inl rfl) _
  exact ⟨h.b.trans (hk.belowB (fun k hk => by subst hk; omega) h.b.size), h.C, hk.blk h.hd (by omega), hk.blk h.hl (by omega), hk.blk h.hv (by omega), (Kd.R_putg h.D x v).1, h.o1, h.o2, h.o3, h.o4, h.ll⟩

set_option maxRecDepth 100000 in
set_option maxHeartbeats 2000000 in
theorem visit_met (w : World) (n : Nat) (A : Option Addr) (cl bd bl bv g cd lo hi : Nat) (l d : List Int) (wi : World) (x : Int) (hD : Dw w wi n A cl bd bl bv (some ⟨g, 0, none⟩) cd lo hi l d) (hp : Dp l d) (hx : idx l x) (hs : rd d x ≠ -2) :
    Calls Try.prog 48 #[.int .i64 x, .pointer (some ⟨bd, 0, none⟩), .pointer (some ⟨bl, 0, none⟩), .pointer (some ⟨bv, 0, none⟩)] wi fun e w' => ∃ b d', e = .returned (.bool b) ∧ Vis l d x b d' ∧ Dw w w' n A cl bd bl bv (some ⟨g, 0, none⟩) cd lo hi l d' := by
  have x0 := hx.1
  have x1 : x < n := by have := hx.2; rw [hD.ll] at this; exact this
  have d1 := hD.cd_
  obtain ⟨d2, f2⟩ := hD.d_ x0 x1
  have hN := Aside0.mk (And.intro (vis_set hx hp hs) hD)
  obtain ⟨v, hv⟩ : ∃ v, rd d x = v := ⟨_, rfl⟩
  rw [hv] at d2 hs hN
  have e1 : (v != -2) = true := by simpa using hs
  clear hD hp hx hv hs
  go_enter Try.func48, Try.ntmps48
  go_wp2
  go_ret
  exact ⟨_, d, rfl, hN.out⟩

set_option maxRecDepth 100000 in
set_option maxHeartbeats 2000000 in
theorem visit_any (w : World) (n : Nat) (A : Option Addr) (cl bd bl bv g cd lo hi : Nat) (l : List Int) (hl : ∀ x, idx l x → -1 ≤ rd l x ∧ rd l x < n) (hn : n ≤ 70) :
    ∀ (m : Nat) (d : List Int) (wi : World) (x : Int), cnt2 d ≤ m → Dw w wi n A cl bd bl bv (some ⟨g, 0, none⟩) cd lo hi l d → Dp l d → idx l x →
    Calls Try.prog 48 #[.int .i64 x, .pointer (some ⟨bd, 0, none⟩), .pointer (some ⟨bl, 0, none⟩), .pointer (some ⟨bv, 0, none⟩)] wi fun e w' => ∃ b d', e = .returned (.bool b) ∧ Vis l d x b d' ∧ Dw w w' n A cl bd bl bv (some ⟨g, 0, none⟩) cd lo hi l d' := by
  intro m
  induction m with
  | zero =>
    intro d wi x hm hD hp hx
    by_cases hs : rd d x = -2
    · have := (act hx hp hs).2.1
      omega
    · exact visit_met w n A cl bd bl bv g cd lo hi l d wi x hD hp hx hs
  | succ m ih =>
    intro d wi x hm hD hp hx
    by_cases hs : rd d x = -2
    · have x0 := hx.1
      have x1 : x < n := by have := hx.2; rw [hD.ll] at this; exact this
      obtain ⟨a1, a2, a3, a4⟩ := act hx hp hs
      have d1 := hD.cd_
      obtain ⟨d2, f2⟩ := hD.d_ x0 x1
      rw [hs] at d2
      have hD1 := hD.put x (-3)
      have hX := Aside0.mk (And.intro (show cnt2 (d.set x.toNat (-3)) ≤ m by omega) (And.intro hD (And.intro hp (And.intro hx (And.intro hs (And.intro a1 hD1))))))
      have hl' := Aside0.mk hl
      have ih' := Aside0.mk ih
      have g1 := hD1.cl_
      have g2 := hD1.cd_
      have g3 := hD1.cv_
      obtain ⟨la, eA, g4⟩ := hD1.l_ x0 x1
      subst eA
      clear hm hD hp hx hl ih hs a1 a2 a3 a4
      by_cases hr : rd l x = x
      · obtain ⟨_, g5⟩ := hD1.d_ x0 x1
        rw [hr] at g4
        have hN : Aside0 (Vis l d x true ((d.set x.toNat (-3)).set x.toNat 0) ∧ Dw w ((wi.setCell ⟨g, x.toNat, none⟩ (.int .i64 (-3))).setCell ⟨g, x.toNat, none⟩ (.int .i64 0)) n (some la) cl bd bl bv (some ⟨g, 0, none⟩) cd lo hi l ((d.set x.toNat (-3)).set x.toNat 0)) := ⟨vis_root hX.out.2.2.2.1 hX.out.2.2.1 hX.out.2.2.2.2.1 hr, hD1.put x 0⟩
        clear hr hD1
        go_enter Try.func48, Try.ntmps48
        go_wp2
        go_ret
        exact ⟨true, _, rfl, hN.out⟩
      · by_cases hneg : rd l x < 0
        · have hN : Aside0 (Vis l d x false (d.set x.toNat (-3)) ∧ Dw w (wi.setCell ⟨g, x.toNat, none⟩ (.int .i64 (-3))) n (some la) cl bd bl bv (some ⟨g, 0, none⟩) cd lo hi l (d.set x.toNat (-3))) := ⟨vis_low hX.out.2.2.2.1 hX.out.2.2.1 hneg _, hD1⟩
          obtain ⟨p, hp⟩ : ∃ p, rd l x = p := ⟨_, rfl⟩
          rw [hp] at g4 hr hneg
          have e1 : (p == x) = false := by simpa using hr
          clear hp hr hD1
          go_enter Try.func48, Try.ntmps48
          go_wp2
          go_ret
          exact ⟨false, _, rfl, hN.out⟩
        · have hpi : idx l (rd l x) := ⟨by omega, by have := (hl'.out x hX.out.2.2.2.1).2; have := hX.out.2.1.ll; omega⟩
          have hcall := ih'.out (d.set x.toNat (-3)) (wi.setCell ⟨g, x.toNat, none⟩ (.int .i64 (-3))) (rd l x) hX.out.1 hD1 hX.out.2.2.2.2.2.1 hpi
          have hr' := Aside0.mk hr
          have hv0 := Aside0.mk (fun (d2 : List Int) (hv : Vis l (d.set x.toNat (-3)) (rd l x) false d2) => vis_up_no hX.out.2.2.2.1 hX.out.2.2.1 hX.out.2.2.2.2.1 hr'.out hv d2)
          have hv1 := Aside0.mk (fun (d2 : List Int) (hv : Vis l (d.set x.toNat (-3)) (rd l x) true d2) => vis_up_yes hX.out.2.2.2.1 hX.out.2.2.1 hX.out.2.2.2.2.1 hr'.out hv)
          have hpi' : Aside0 (0 ≤ rd l x ∧ rd l x < n) := ⟨hpi.1, by have := hpi.2; rw [hX.out.2.1.ll] at this; exact this⟩
          obtain ⟨p, hp⟩ : ∃ p, rd l x = p := ⟨_, rfl⟩
          rw [hp] at g4 hr hneg hcall hv0 hv1 hpi'
          have e1 : (p == x) = false := by simpa using hr
          have e2 : decide (p < 0) = false := decide_eq_false hneg
          have hcall := Aside0.mk hcall
          clear hp hr hD1 hpi hneg
          go_enter Try.func48, Try.ntmps48
          go_wp2_with fail
          refine hcall.out.mono ?_
          rintro e w2 ⟨b, d9, rfl, hv, hD2⟩
          clear g1 g2 g3 g4 d1 d2 f2 hcall
          cases b
          · have hN : Aside0 (Vis l d x false d9 ∧ Dw w w2 n (some la) cl bd bl bv (some ⟨g, 0, none⟩) cd lo hi l d9) := ⟨hv0.out d9 hv, hD2⟩
            clear hv hD2
            go_wp2
            go_ret
            exact ⟨false, _, rfl, hN.out⟩
          · obtain ⟨k, h1, h2, h3, h4, h5⟩ := hv1.out d9 hv
            have hk : k < 70 := by have := hX.out.2.1.ll; omega
            have d1 := hD2.cd_
            obtain ⟨d2, _⟩ := hD2.d_ hpi'.out.1 hpi'.out.2
            obtain ⟨d3, f3⟩ := hD2.d_ x0 x1
            rw [h1] at d2
            have hN : Aside0 (∀ W, W = w2.drew → Vis l d x true (d9.set x.toNat ((k : Int) + 1)) ∧ Dw w (W.setCell ⟨g, x.toNat, none⟩ (.int .i64 ((k : Int) + 1))) n (some la) cl bd bl bv (some ⟨g, 0, none⟩) cd lo hi l (d9.set x.toNat ((k : Int) + 1))) := ⟨fun W hW => by subst hW; exact ⟨h5, (hD2.step (pw_below_drewN (Below.refl _ _) 1)).put x _⟩⟩
            obtain ⟨p0, p1⟩ := hpi'.out
            have z1 : IntKind.i64.wrap ((k : Int) + 1) = (k : Int) + 1 := IntWalk.i64_in _ (by omega)
            clear hv h1 h2 h3 h4 h5 hD2
            go_wp2_with fail
            refine still_tail 8 (by kernel_rfl) (by kernel_rfl) ?_
            simp only [List.take_succ_cons, List.take_zero, List.drop_succ_cons, List.drop_zero]
            repeat still_step
            refine wpStill_nil ?_
            obtain ⟨W, hW⟩ : ∃ W, w2.drew = W := ⟨_, rfl⟩
            have hM := Aside0.mk (hN.out W hW.symm)
            have f4 : W.frozen? ⟨g, x.toNat, none⟩ = false := by rw [← hW]; exact f3
            have f5 : W.cell? ⟨g, x.toNat, none⟩ = some (.int .i64 (rd d9 x)) := by rw [← hW]; exact d3
            rw [hW]
            clear hW hN d1 d2 d3 f3
            go_wp2
            go_ret
            exact ⟨true, _, rfl, hM.out⟩
    · exact visit_met w n A cl bd bl bv g cd lo hi l d wi x hD hp hx hs
end Go.Proofs.Ytbphjbfnnhfhlaa
end

section
/- The walk of depths. -/
set_option linter.unusedVariables false
set_option linter.unusedSimpArgs false
set_option linter.unusedSectionVars false
namespace Go.Proofs.Ytbphjbfnnhfhlaa
open Go.RowKit Go.Proofs.YtbphjbfnnhfhlaaW.PrintWords Go.Proofs.Ytbphjbfnnhfhlaa.PDigraphTells Mem

def inR (l : List Int) (x : Int) : Prop := -1 ≤ rd l x ∧ rd l x < l.length
/-- How many of the first j elements are their own index. -/
def roots (l : List Int) (j : Nat) : Nat := ((List.range j).filter fun (i : Nat) => decide (rd l (i : Int) = (i : Int))).length
theorem roots_succ (l : List Int) (j : Nat) : roots l (j + 1) = roots l j + if rd l (j : Int) = (j : Int) then 1 else 0 := by
  unfold roots
  rw [List.range_succ, List.filter_append, List.length_append]
  by_cases h : rd l (j : Int) = (j : Int) <;> simp [h]
theorem roots_le (l : List Int) (j : Nat) : roots l j ≤ j := by
  unfold roots
  have := List.length_filter_le (fun i : Nat => decide (rd l (i : Int) = (i : Int))) (List.range j)
  rwa [List.length_range] at this
/-- A dominator tree's list. -/
structure Tree (l : List Int) : Prop where
  rng : ∀ x, idx l x → inR l x
  up : ∀ x, idx l x → rd l x ≠ -1 → ∃ k, Up l x k
  one : roots l l.length = 1
/-- The depths of all indices. -/
structure Dep (l d : List Int) : Prop where
  len : d.length = l.length
  out : ∀ x, idx l x → rd l x = -1 → rd d x = -1
  at_ : ∀ x, idx l x → rd l x ≠ -1 → ∃ k : Nat, rd d x = k ∧ Up l x k
/-- Depths under way: the first j are done, none is being visited. -/
structure D2 (l d : List Int) (j : Nat) : Prop where
  dp : Dp l d
  no : ∀ y, idx l y → rd d y ≠ -3
  done : ∀ i : Nat, i < j → rd l (i : Int) ≠ -1 → ∃ k : Nat, rd d (i : Int) = k ∧ Up l (i : Int) k
theorem D2.start (l : List Int) : D2 l (List.replicate l.length (-2)) 0 := by
  have h : ∀ y, idx l y → rd (List.replicate l.length (-2)) y = -2 := fun y hy => by
    have e : y = (y.toNat : Int) := (Int.toNat_of_nonneg hy.1).symm
    have := hy.2
    rw [e, rd_get _ y.toNat (by rw [List.length_replicate]; omega), List.getElem_replicate]
  exact ⟨⟨by rw [List.length_replicate], fun x hx => .inl (h x hx)⟩, fun y hy => by rw [h y hy]; omega, fun i hi => by omega⟩
theorem D2.skip {l d : List Int} {j : Nat} (h : D2 l d j) (hj : rd l (j : Int) = -1) : D2 l d (j + 1) := by
  refine ⟨h.dp, h.no, fun i hi hne => ?_⟩
  by_cases e : i = j
  · subst e; exact absurd hj hne
  · exact h.done i (by omega) hne
theorem D2.yes {l d d' : List Int} {j : Nat} (h : D2 l d j) (hj : j < l.length) (hv : Vis l d (j : Int) true d') : D2 l d' (j + 1) := by
  obtain ⟨h1, h2, h3, h4⟩ := hv.yes rfl
  refine ⟨h1, fun y hy e => h.no y hy ((h3 y hy).1 e), fun i hi hne => ?_⟩
  by_cases e : i = j
  · subst e; exact h2
  · have hi2 : i < j := by omega
    have hix : idx l (i : Int) := ⟨by omega, by omega⟩
    rcases h1.at_ (i : Int) hix with h5 | h5 | h5
    · obtain ⟨k, h6, _⟩ := h.done i hi2 hne; have := h4 _ hix h5; omega
    · exact absurd ((h3 _ hix).1 h5) (h.no _ hix)
    · exact h5
theorem D2.no_ {l d d' : List Int} {j : Nat} (h : D2 l d j) (hj : j < l.length) (hne : rd l (j : Int) ≠ -1) (hv : Vis l d (j : Int) false d') : ¬ Tree l := by
  intro ht
  have hix : idx l (j : Int) := ⟨by omega, by omega⟩
  obtain ⟨k, hk⟩ := ht.up _ hix hne
  rcases hv.no rfl with h1 | ⟨y, hy, h1, _⟩
  · exact h1 k hk
  · exact h.no y hy h1
/-- Depths under way, last loop. -/
structure D3 (l d : List Int) (j : Nat) : Prop where
  len : d.length = l.length
  out : ∀ i : Nat, i < j → rd l (i : Int) = -1 → rd d (i : Int) = -1
  at_ : ∀ x, idx l x → rd l x ≠ -1 → ∃ k : Nat, rd d x = k ∧ Up l x k
theorem D2.next {l d : List Int} (h : D2 l d l.length) : D3 l d 0 := by
  refine ⟨h.dp.len, fun i hi => by omega, fun x hx hne => ?_⟩
  have e : x = (x.toNat : Int) := (Int.toNat_of_nonneg hx.1).symm
  have := hx.2
  rw [e] at hne ⊢
  exact h.done x.toNat (by omega) hne
theorem D3.skip {l d : List Int} {j : Nat} (h : D3 l d j) (hj : rd l (j : Int) ≠ -1) : D3 l d (j + 1) := by
  refine ⟨h.len, fun i hi e => ?_, h.at_⟩
  by_cases e1 : i = j
  · subst e1; exact absurd e hj
  · exact h.out i (by omega) e
theorem D3.set {l d : List Int} {j : Nat} (h : D3 l d j) (hl : j < l.length) (hj : rd l (j : Int) = -1) : D3 l (d.set ((j : Int)).toNat (-1)) (j + 1) := by
  have hxd : idx d (j : Int) := ⟨by omega, by have := h.len; omega⟩
  refine ⟨by rw [List.length_set]; exact h.len, fun i hi e => ?_, fun x hx hne => ?_⟩
  · rw [rd_set d (j : Int) (-1) (i : Int) hxd (by omega)]
    split
    · rfl
    · rename_i e1; exact h.out i (by omega) e
  · rw [rd_set d (j : Int) (-1) x hxd hx.1]
    split
    · rename_i e1; rw [e1] at hne; exact absurd hj hne
    · exact h.at_ x hx hne
theorem D3.last {l d : List Int} (h : D3 l d l.length) : Dep l d := by
  refine ⟨h.len, fun x hx e => ?_, h.at_⟩
  have e1 : x = (x.toNat : Int) := (Int.toNat_of_nonneg hx.1).symm
  have := hx.2
  rw [e1] at e ⊢
  exact h.out x.toNat (by omega) e

/-- What depths answers. -/
def DPost (l : List Int) (w : World) (e : Ending) (w' : World) : Prop := ∃ v b, e = .returned (.tuple #[v, .bool b]) ∧ (b = true → Tree l ∧ ∃ d, Kd.R (Kd.int .i64) 3 w' 0 (fun k => w.heap.size ≤ k) v d ∧ Dep l d) ∧ (b = false → ¬ Tree l) ∧ Below w.heap.size w w'
theorem DPost.no {l : List Int} {w w' : World} (v : Value) (h : ¬ Tree l ∧ Below w.heap.size w w') : DPost l w (.returned (.tuple #[v, .bool false])) w' := ⟨v, false, rfl, fun h => (by cases h), fun _ => h.1, h.2⟩
theorem DPost.yes {l d : List Int} {w w' : World} (v : Value) (h : Tree l ∧ Kd.R (Kd.int .i64) 3 w' 0 (fun k => w.heap.size ≤ k) v d ∧ Dep l d ∧ Below w.heap.size w w') : DPost l w (.returned (.tuple #[v, .bool true])) w' := ⟨v, true, rfl, fun _ => ⟨h.1, d, h.2.1, h.2.2.1⟩, fun h => (by cases h), h.2.2.2⟩
set_option maxRecDepth 100000 in
set_option maxHeartbeats 2000000 in
theorem depths_any (A : Option Addr) (c : Nat) (l : List Int) (w : World) (hC : Kd.C (Kd.int .i64) w A l.length l) (hc : l.length ≤ c) (hl : l.length ≤ 70) :
    Calls Try.prog 39 #[.slice A l.length c] w (DPost l w) := by
  have hX := Aside0.mk (And.intro hC (And.intro hc hl))
  obtain ⟨n, hn⟩ : ∃ n, l.length = n := ⟨_, rfl⟩
  have hn' := Aside0.mk hn
  have hn70 : n ≤ 70 := by omega
  rw [hn]
  clear hC hc hl hn
  go_enter Try.func39, Try.ntmps39
  go_wp2_with fail
  obtain ⟨bl, hbl⟩ : ∃ bl, bl = w.heap.size := ⟨_, rfl⟩
  obtain ⟨w1, hw1⟩ : ∃ w1, w1 = w.alloc (.cells #[.slice A n c] 28 (0, 0)) := ⟨_, rfl⟩
  have hl1 : Aside0 (w1.heap[bl]? = some (.cells #[.slice A n c] 28 (0, 0)) ∧ Below w.heap.size w w1 ∧ w1.heap.size = w.heap.size + 1 ∧ bl = w.heap.size) := ⟨by rw [hw1, hbl]; exact ⟨heap_alloc_new w _, below_alloc (Below.refl _ _) _, by simp, rfl⟩⟩
  rw [show Value.pointer (some (⟨w.heap.size, 0, none⟩ : Addr)) = Value.pointer (some ⟨bl, 0, none⟩) by rw [hbl], ← hw1]
  clear hbl hw1
  refine (fill_any n (-2) _ (by omega)).mono ?_
  rintro e' w2 ⟨v, rfl, RR, B2⟩
  obtain ⟨Ad, cd, ev, hx, Cx⟩ := Kd.R_reads RR
  rw [List.length_replicate] at ev
  subst ev
  have R2 := Aside0.mk (And.intro RR B2)
  clear RR B2 hx Cx
  have hsz : (w2.alloc (.cells #[.slice Ad n cd] 28 (0, 0))).heap.size = w2.heap.size + 1 := by simp
  have hnw := heap_alloc_new (w2.alloc (.cells #[.slice Ad n cd] 28 (0, 0))) (.cells #[.nilFunc] 62 (0, 0))
  rw [hsz] at hnw
  have q1 : ((w2.alloc (.cells #[.slice Ad n cd] 28 (0, 0))).alloc (.cells #[.nilFunc] 62 (0, 0))).cell? ⟨w2.heap.size + 1, 0, none⟩ = some .nilFunc := cell_at hnw rfl
  have q2 : ((w2.alloc (.cells #[.slice Ad n cd] 28 (0, 0))).alloc (.cells #[.nilFunc] 62 (0, 0))).frozen? ⟨w2.heap.size + 1, 0, none⟩ = false := free_at hnw 0
  have hnw := Aside0.mk hnw
  clear hsz
  go_upto_region 5 with (fail)
  clear q1 q2 hnw
  obtain ⟨bd, hbd⟩ : ∃ bd, bd = w2.heap.size := ⟨_, rfl⟩
  obtain ⟨bv, hbv⟩ : ∃ bv, bv = w2.heap.size + 1 := ⟨_, rfl⟩
  obtain ⟨w3, hw3⟩ : ∃ w3, w3 = (w2.alloc (.cells #[.slice Ad n cd] 28 (0, 0))).alloc (.cells #[.func (.func 48) #[] #[.pointer (some ⟨bd, 0, none⟩), .pointer (some ⟨bl, 0, none⟩), .pointer (some ⟨bv, 0, none⟩)]] 62 (0, 0)) := ⟨_, rfl⟩
  rw [← hbv, ← hbd, ← hw3]
  have hI0 : Aside0 (Dw w w3 n A c bd bl bv Ad cd w1.heap.size w2.heap.size l (List.replicate n (-2))) := ⟨by
    have b12 := R2.out.2
    have b23 : Below w2.heap.size w2 w3 := by rw [hw3]; exact below_alloc (below_alloc (Below.refl _ _) _) _
    have b02 := hl1.out.2.1.trans (b12.mono hl1.out.2.1.size)
    have s1 := hl1.out.2.1.size
    have s2 := b12.size
    have s3 := hl1.out.2.2.1
    have s4 := hl1.out.2.2.2
    refine ⟨b02.trans (b23.mono b02.size), by have := hX.out.1; rwa [hn'.out] at this, ?_, ?_, ?_, ?_, by omega, by omega, by omega, by omega, hn'.out⟩
    · rw [hw3, hbd]
      exact ((below_alloc (Below.refl _ (w2.alloc _)) _).block _ (by simp)).trans (heap_alloc_new w2 _)
    · exact (b23.block _ (by have := blk_lt' hl1.out.1; omega)).trans ((b12.block _ (blk_lt' hl1.out.1)).trans hl1.out.1)
    · rw [hw3, hbv]
      have h9 := heap_alloc_new (w2.alloc (.cells #[.slice Ad n cd] 28 (0, 0))) (.cells #[.func (.func 48) #[] #[.pointer (some ⟨bd, 0, none⟩), .pointer (some ⟨bl, 0, none⟩), .pointer (some ⟨w2.heap.size + 1, 0, none⟩)]] 62 (0, 0))
      rw [show (w2.alloc (.cells #[.slice Ad n cd] 28 (0, 0))).heap.size = w2.heap.size + 1 by simp] at h9
      exact h9
    · have hR := Kd.R_mono (Kd.R_bound R2.out.1) (ok' := fun k => w1.heap.size ≤ k ∧ k < w2.heap.size) (fun k hk => ⟨hk.1, hk.2.2.1⟩)
      exact Kd.R_step hR (fun k hk hlt => b23.block k hlt)⟩
  clear hbd hbv hw3 R2 hl1
  obtain ⟨lo, hlo⟩ : ∃ lo, lo = w1.heap.size := ⟨_, rfl⟩
  obtain ⟨hi, hhi⟩ : ∃ hi, hi = w2.heap.size := ⟨_, rfl⟩
  rw [← hlo, ← hhi] at hI0
  clear hlo hhi
  have g1 := hI0.out.cl_
  go_wp2_with fail
  clear g1
  go_loopg [5, 19] n (fun q vr v wi => ∃ j : Nat, j + q = n ∧ v = .int .i64 (j : Int) ∧ vr = .int .i64 (roots l j : Int) ∧ Aside0 (Dw w wi n A c bd bl bv Ad cd lo hi l (List.replicate n (-2)) ∧ ∀ i : Nat, i < j → inR l (i : Int)))
  case atStart => exact ⟨0, by omega, rfl, rfl, hI0.out, fun i hi => by omega⟩
  case round =>
    obtain ⟨j, hj, rfl, rfl, hJ⟩ := hrel
    clear hI0
    by_cases hlt : j < n
    · have hlti : (j : Int) < n := by omega
      obtain ⟨gk1, rfl⟩ : ∃ q, gk = q + 1 := ⟨gk - 1, by omega⟩
      have hj1 : j + 1 + gk1 = n := by omega
      have hgk1 : gk1 < gk1 + 1 := by omega
      obtain ⟨la, eA, g4⟩ := hJ.out.1.l_ (x := (j : Int)) (by omega) hlti
      subst eA
      rw [Int.toNat_natCast] at g4
      have g1 := hJ.out.1.cl_
      have hrs := roots_succ l j
      have hrl := roots_le l j
      have hjx : Aside0 (idx l (j : Int)) := ⟨⟨by omega, by rw [hn'.out]; exact hlti⟩⟩
      by_cases hlow : rd l (j : Int) < -1
      · have hNo : Aside0 (¬ Tree l ∧ Below w.heap.size w wr) := ⟨fun ht => by have := (ht.rng _ hjx.out).1; omega, hJ.out.1.b⟩
        obtain ⟨p, hp⟩ : ∃ p, rd l (j : Int) = p := ⟨_, rfl⟩
        rw [hp] at g4 hlow
        clear hJ hrs hrl hp
        go_wp2_with fail
        go_ret2
        exact DPost.no _ hNo.out
      · by_cases hhigh : (n : Int) ≤ rd l (j : Int)
        · have hNo : Aside0 (¬ Tree l ∧ Below w.heap.size w wr) := ⟨fun ht => by have := (ht.rng _ hjx.out).2; rw [hn'.out] at this; omega, hJ.out.1.b⟩
          obtain ⟨p, hp⟩ : ∃ p, rd l (j : Int) = p := ⟨_, rfl⟩
          rw [hp] at g4 hlow hhigh
          clear hJ hrs hrl hp
          go_wp2_with fail
          go_ret2
          exact DPost.no _ hNo.out
        · have hJ2 : Aside0 (Dw w wr n (some la) c bd bl bv Ad cd lo hi l (List.replicate n (-2)) ∧ ∀ i : Nat, i < j + 1 → inR l (i : Int)) := ⟨hJ.out.1, fun i hi => by
            by_cases e : i = j
            · subst e; exact ⟨by omega, by rw [hn'.out]; omega⟩
            · exact hJ.out.2 i (by omega)⟩
          by_cases hroot : rd l (j : Int) = (j : Int)
          · rw [if_pos hroot] at hrs
            rw [hroot] at g4 hlow hhigh
            obtain ⟨rr, hrr⟩ : ∃ rr, roots l j = rr := ⟨_, rfl⟩
            rw [hrr] at hrs hrl ⊢
            have hrs := Aside0.mk hrs
            clear hJ hroot hrr
            go_wp2_with fail
            go_roundg gk1
            case rel => exact ⟨j + 1, hj1, by go_num, by rw [hrs.out]; go_num, hJ2⟩
            case measure => exact hgk1
          · rw [if_neg hroot] at hrs
            obtain ⟨p, hp⟩ : ∃ p, rd l (j : Int) = p := ⟨_, rfl⟩
            rw [hp] at g4 hlow hhigh hroot
            have e1 : (p == (j : Int)) = false := by simpa using hroot
            obtain ⟨rr, hrr⟩ : ∃ rr, roots l j = rr := ⟨_, rfl⟩
            rw [hrr] at hrs hrl ⊢
            have hrs := Aside0.mk hrs
            clear hJ hroot hrr hp
            go_wp2_with fail
            go_roundg gk1
            case rel => exact ⟨j + 1, hj1, by go_num, by rw [hrs.out]; rfl, hJ2⟩
            case measure => exact hgk1
    · have hjn : j = n := by omega
      subst hjn
      have hI1 : Aside0 (Dw w wr j A c bd bl bv Ad cd lo hi l (List.replicate j (-2)) ∧ ∀ x, idx l x → inR l x) := ⟨hJ.out.1, fun x hx => by
        have e : x = (x.toNat : Int) := (Int.toNat_of_nonneg hx.1).symm
        have := hx.2
        rw [e]
        exact hJ.out.2 x.toNat (by rw [hn'.out] at this; omega)⟩
      have g1 := hI1.out.1.cl_
      clear hJ
      obtain ⟨rr, hrr⟩ : ∃ rr, roots l j = rr := ⟨_, rfl⟩
      have hrl := roots_le l j
      rw [hrr] at hrl ⊢
      have hrr := Aside0.mk hrr
      go_wp2_with fail
      clear g1 hlt hrl
      have hI2 : Aside0 (Dw w wr j A c bd bl bv Ad cd lo hi l (List.replicate j (-2)) ∧ D2 l (List.replicate j (-2)) 0) := ⟨hI1.out.1, by have := D2.start l; rw [hn'.out] at this; exact this⟩
      have hrng := Aside0.mk hI1.out.2
      clear hI1
      obtain ⟨n, hnn⟩ : ∃ n, j = n := ⟨_, rfl⟩
      subst hnn
      go_loopg [40] j (fun q v wi => ∃ (i : Nat) (d : List Int), i + q = j ∧ v = .int .i64 (i : Int) ∧ Aside0 (Dw w wi j A c bd bl bv Ad cd lo hi l d ∧ D2 l d i))
      case atStart => exact ⟨0, _, by omega, rfl, hI2⟩
      case round =>
        obtain ⟨i, d, hi2, rfl, hJ⟩ := hrel
        clear hI2
        by_cases hlt : i < j
        · have hlti : (i : Int) < j := by omega
          obtain ⟨gk1, rfl⟩ : ∃ q, gk = q + 1 := ⟨gk - 1, by omega⟩
          have hj1 : i + 1 + gk1 = j := by omega
          have hgk1 : gk1 < gk1 + 1 := by omega
          obtain ⟨la, eA, g4⟩ := hJ.out.1.l_ (x := (i : Int)) (by omega) hlti
          subst eA
          rw [Int.toNat_natCast] at g4
          have hix : Aside0 (idx l (i : Int) ∧ i < l.length) := ⟨⟨by omega, by rw [hn'.out]; exact hlti⟩, by rw [hn'.out]; exact hlt⟩
          by_cases hm1 : rd l (i : Int) = -1
          · have hJ2 := Aside0.mk (And.intro hJ.out.1 (hJ.out.2.skip hm1))
            rw [hm1] at g4
            clear hJ hm1
            go_wp2_with fail
            go_roundg gk1
            case rel => exact ⟨i + 1, d, hj1, by go_num, hJ2⟩
            case measure => exact hgk1
          · obtain ⟨g, eg⟩ := hJ.out.1.row (by omega)
            subst eg
            have hcall := Aside0.mk (visit_any w j (some la) c bd bl bv g cd lo hi l (fun x hx => by have := hrng.out x hx; unfold inR at this; rw [hn'.out] at this; exact this) hn70 (cnt2 d) d wr (i : Int) (Nat.le_refl _) hJ.out.1 hJ.out.2.dp hix.out.1)
            have hne := Aside0.mk hm1
            obtain ⟨p, hp⟩ : ∃ p, rd l (i : Int) = p := ⟨_, rfl⟩
            rw [hp] at g4 hm1
            have e1 : (p == -1) = false := by simpa using hm1
            have g3 := hJ.out.1.cv_
            clear hp hm1
            go_wp2_with fail
            refine hcall.out.mono ?_
            rintro e' w9 ⟨b, d9, rfl, hv, hD9⟩
            clear g3 g4 hcall
            cases b
            · have hNo : Aside0 (¬ Tree l ∧ Below w.heap.size w w9) := ⟨hJ.out.2.no_ hix.out.2 hne.out hv, hD9.b⟩
              clear hv hD9 hJ
              go_wp2
              go_ret2
              exact DPost.no _ hNo.out
            · have hI3 : Aside0 (Dw w w9 j (some la) c bd bl bv (some ⟨g, 0, none⟩) cd lo hi l d9 ∧ D2 l d9 (i + 1)) := ⟨hD9, hJ.out.2.yes hix.out.2 hv⟩
              clear hv hD9 hJ
              go_wp2_with fail
              go_roundg gk1
              case rel => exact ⟨i + 1, d9, hj1, by go_num, hI3⟩
              case measure => exact hgk1
        · have hij : i = j := by omega
          subst hij
          have hI3 : Aside0 (Dw w wr i A c bd bl bv Ad cd lo hi l d ∧ D3 l d 0 ∧ ∀ x, idx l x → rd l x ≠ -1 → ∃ k, Up l x k) := ⟨hJ.out.1, by have := hJ.out.2; rw [← hn'.out] at this; exact this.next, fun x hx hne => by
            have := hJ.out.2
            rw [← hn'.out] at this
            obtain ⟨k, _, hu⟩ := this.next.at_ x hx hne
            exact ⟨k, hu⟩⟩
          have hup := Aside0.mk hI3.out.2.2
          have g1 := hI3.out.1.cl_
          clear hJ
          go_wp2_with fail
          clear g1 hlt
          go_loopg [54] i (fun q v wi => ∃ (m : Nat) (d : List Int), m + q = i ∧ v = .int .i64 (m : Int) ∧ Aside0 (Dw w wi i A c bd bl bv Ad cd lo hi l d ∧ D3 l d m))
          case atStart => exact ⟨0, _, by omega, rfl, ⟨hI3.out.1, hI3.out.2.1⟩⟩
          case round =>
            obtain ⟨m, d, hm2, rfl, hJ⟩ := hrel
            clear hI3
            by_cases hlt : m < i
            · have hlti : (m : Int) < i := by omega
              obtain ⟨gk1, rfl⟩ : ∃ q, gk = q + 1 := ⟨gk - 1, by omega⟩
              have hj1 : m + 1 + gk1 = i := by omega
              have hgk1 : gk1 < gk1 + 1 := by omega
              obtain ⟨la, eA, g4⟩ := hJ.out.1.l_ (x := (m : Int)) (by omega) hlti
              subst eA
              rw [Int.toNat_natCast] at g4
              by_cases hm1 : rd l (m : Int) = -1
              · obtain ⟨g, eg⟩ := hJ.out.1.row (by omega)
                subst eg
                have g3 := hJ.out.1.cd_
                obtain ⟨g5, g6⟩ := hJ.out.1.d_ (x := (m : Int)) (by omega) hlti
                have hput := hJ.out.1.put (m : Int) (-1)
                have hset := hJ.out.2.set (by rw [hn'.out]; exact hlt) hm1
                rw [Int.toNat_natCast] at g5 g6 hput hset
                have hI4 := Aside0.mk (And.intro hput hset)
                rw [hm1] at g4
                clear hJ hm1 hput hset
                go_wp2_with fail
                go_roundg gk1
                case rel => exact ⟨m + 1, _, hj1, by go_num, hI4⟩
                case measure => exact hgk1
              · have hI4 := Aside0.mk (And.intro hJ.out.1 (hJ.out.2.skip hm1))
                obtain ⟨p, hp⟩ : ∃ p, rd l (m : Int) = p := ⟨_, rfl⟩
                rw [hp] at g4 hm1
                have e1 : (p == -1) = false := by simpa using hm1
                clear hJ hm1 hp
                go_wp2_with fail
                go_roundg gk1
                case rel => exact ⟨m + 1, d, hj1, by go_num, hI4⟩
                case measure => exact hgk1
            · have hmi : m = i := by omega
              subst hmi
              have hN : Aside0 (Kd.R (Kd.int .i64) 3 wr 0 (fun k => w.heap.size ≤ k) (.slice Ad m cd) d ∧ Dep l d ∧ Below w.heap.size w wr) := ⟨Kd.R_mono hJ.out.1.D (fun k hk => by have := hJ.out.1.o1; omega), by have := hJ.out.2; rw [← hn'.out] at this; exact this.last, hJ.out.1.b⟩
              have g3 := hJ.out.1.cd_
              clear hJ
              by_cases hone : rr = 1
              · have hT : Aside0 (Tree l) := ⟨⟨hrng.out, hup.out, by rw [hn'.out, hrr.out, hone]⟩⟩
                subst hone
                go_wp2
                go_ret2
                exact DPost.yes _ ⟨hT.out, hN.out⟩
              · have hT : Aside0 (¬ Tree l ∧ Below w.heap.size w wr) := ⟨fun ht => by have := ht.one; rw [hn'.out, hrr.out] at this; exact hone this, hN.out.2.2⟩
                have e1 : ((rr : Int) == 1) = false := beq_eq_false_iff_ne.2 (by omega)
                have e2 : (rr == 1) = false := beq_eq_false_iff_ne.2 hone
                clear hone
                go_wp2
                go_ret2
                exact DPost.no _ hT.out
end Go.Proofs.Ytbphjbfnnhfhlaa
end

