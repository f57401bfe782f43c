/- OutofssaParallel: the map of registers, and the walk. -/
import Derived.Test.YtlmendmncfibfaaSeqI
import Derived.Test.YtlmendmncfibfaaSeqN
import Derived.WalkSpells
import Derived.WalkLawsBesides
import Derived.Maps.OwnSet
import Derived.Maps.Views
import Derived.StillTailTactics
import Derived.Deep.LoopGhost
import Derived.WalkMore
import Derived.Deep.QuietTactic
import Derived.BigQuiet
import Derived.Deep.RegionLaw
set_option linter.unusedVariables false
set_option linter.unusedSimpArgs false
namespace Go.Proofs.Ytlmendmncfibfaa
open Go.RowKit Go.Maps Go.Proofs.YtlmendmncfibfaaW.PrintWords Go.Proofs.Ytlmendmncfibfaa.POutofssaSequentializes Mem

def litD (n : Int) : DataW Unit := .lit (.int .i64 n)
theorem law3 : Keyed Try.prog 3 := int_keyed Try.underlying3
theorem zero3 (w : World) : (zeroValue 3).run Try.prog w = .ok (.int .i64 0) w := by kernel_rfl
theorem key_int (x : Int) : WideAt.IsKeyLit (.int .i64 x) := by unfold WideAt.IsKeyLit; simp
def wf64 (x : Int) : Prop := (Lit.int .i64 x).wf = true

/-- Block b is a map of at most n entries that tells the registers f. -/
def MapI (w : World) (b n : Nat) (f : Regs) : Prop :=
  ∃ D : DataW Unit, w.ownsMap Try.prog 3 (plainElem Try.prog 3) b n D ∧ (∀ x, Maps.has D (.int .i64 x) = (f x).isSome) ∧ ∀ x v, f x = some v → D.atKey (.int .i64 x) (litD 0) = litD v
theorem MapI.at_ {w : World} {b n : Nat} {f : Regs} {D : DataW Unit} (hh : ∀ x, Maps.has D (.int .i64 x) = (f x).isSome) (ha : ∀ x v, f x = some v → D.atKey (.int .i64 x) (litD 0) = litD v) (x : Int) : D.atKey (.int .i64 x) (litD 0) = litD ((f x).getD 0) := by
  cases e : f x with
  | some v => rw [ha x v e]; rfl
  | none => exact atKey_of_not_has (by rw [hh, e]; rfl) _
theorem MapI.look {w : World} {b n : Nat} {f : Regs} (h : MapI w b n f) {x : Int} (hx : wf64 x) :
    (Instr.lookup 33 (.map (some b)) (.int .i64 x) true).run Try.prog w = .ok (.tuple #[.int .i64 ((f x).getD 0), .bool (f x).isSome]) w := by
  obtain ⟨D, ho, hh, ha⟩ := h
  obtain ⟨v, ps, hr, hv⟩ := ho.look_ok law3 Try.underlying33 (zero3 _) (plainElem_int Try.underlying3 (by decide)) (keyOf_int_mk Try.underlying3 hx)
  rw [hh] at hr
  have e : v = .int .i64 ((f x).getD 0) := by
    obtain ⟨a, rfl, hz, _⟩ := plainElem_int_inv Try.underlying3 hv
    have := MapI.at_ (w := w) (b := b) (n := n) hh ha x
    unfold litD at this
    rw [this] at hz
    simp at hz
    rw [hz.1]
  rw [e] at hr
  exact hr
theorem MapI.look1 {w : World} {b n : Nat} {f : Regs} (h : MapI w b n f) {x : Int} (hx : wf64 x) :
    (Instr.lookup 33 (.map (some b)) (.int .i64 x) false).run Try.prog w = .ok (.int .i64 ((f x).getD 0)) w := by
  obtain ⟨D, ho, hh, ha⟩ := h
  obtain ⟨v, ps, hr, hv⟩ := ho.lookup law3 Try.underlying33 (zero3 _) (plainElem_int Try.underlying3 (by decide)) (keyOf_int_mk Try.underlying3 hx)
  have e : v = .int .i64 ((f x).getD 0) := by
    obtain ⟨a, rfl, hz, _⟩ := plainElem_int_inv Try.underlying3 hv
    have := MapI.at_ (w := w) (b := b) (n := n) hh ha x
    unfold litD at this
    rw [this] at hz
    simp at hz
    rw [hz.1]
  rw [e] at hr
  exact hr
theorem MapI.wp {w : World} {b n : Nat} {f : Regs} (h : MapI w b n f) {x v : Int} (hx : wf64 x) (hv : wf64 v) (hn : n < maxLen)
    {ops : Array Oper} {rest : List Oper} {o : Oper} {a : Act} {Q : Exit → Act → World → Prop} (hg : o.guard = none) (m kx vx : Operand) (hop : o.op = Op.mapUpdate 33 m kx vx)
    (hm : a.eval m = .map (some b)) (hkx : a.eval kx = .int .i64 x) (hvx : a.eval vx = .int .i64 v)
    (hK : ∀ w', MapI w' b (n + 1) (upd f x (some v)) → w.grownBy w' (some b) → wpList Try.prog ops Q rest (a.put o.dst undef) w') : wpList Try.prog ops Q (o :: rest) a w := by
  obtain ⟨D, ho, hh, ha⟩ := h
  refine wpList_mapUpdate_own w hg m kx vx 33 hop 3 3 law3 Try.underlying33 (plainElem Try.prog 3) b n D hm ho hn _ _ (.int .i64 x) hkx hvx (keyOf_int_mk Try.underlying3 hx) (litD v) [] (plainElem_int Try.underlying3 hv) ?_
  intro w' ho' hg'
  refine hK w' ⟨_, ho', fun y => ?_, fun y u hy => ?_⟩ hg'
  · by_cases e : y = x
    · subst e; rw [has_put_same ho.isMap (key_int _), upd_same]; rfl
    · rw [has_put_other (by simpa using e), hh, upd_other _ _ e]
  · by_cases e : y = x
    · subst e
      rw [upd_same] at hy
      injection hy with hy
      subst hy
      exact atKey_put_same ho.isMap (key_int _) _ _
    · rw [upd_other _ _ e] at hy
      rw [atKey_put_other (by simpa using e)]
      exact ha y u hy
theorem MapI.kept {w w' : World} {b n : Nat} {f : Regs} (h : MapI w b n f) (hb : Below w.heap.size w w') : MapI w' b n f := by
  obtain ⟨D, ho, r⟩ := h
  have hlt := ho.lt
  obtain ⟨es, clock, h1, h2⟩ := ho
  exact ⟨D, ⟨es, clock, (hb.block b hlt).trans h1, h2⟩, r⟩
theorem MapI.made (w : World) : MapI (w.alloc (.map #[] 0)) w.heap.size 0 (fun _ => none) :=
  ⟨.map [], World.ownsMap_made _ _ _ _, fun _ => rfl, fun _ _ h => by cases h⟩
theorem MapI.drew {w : World} {b n : Nat} {f : Regs} (h : MapI w b n f) (q : Nat) : MapI (w.drewN q) b n f := h
theorem MapI.lt {w : World} {b n : Nat} {f : Regs} (h : MapI w b n f) : b < w.heap.size := h.choose_spec.1.lt

theorem mem_is (A : Option Addr) (c n : Nat) (l : List Int) (v : Int) (b : Bool) (w : World) (hC : Kd.C (Kd.int .i64) w A n l) (hc : n ≤ c) (hl : l.length = n) (hm : n ≤ 1000000) (hb : decide (v ∈ l) = b) :
    Calls Try.prog 10 #[.slice A n c, .int .i64 v] w fun e w' => e = .returned (.bool b) ∧ ∃ q, w' = w.drewN q := by
  subst hl
  exact mem_any A c l v b w hC hc hm hb
def WFr (f : Regs) : Prop := ∀ x v, f x = some v → wf64 x ∧ wf64 v
theorem WFr.regs {dst src : List Int} {n : Nat} (h0 : ∀ x ∈ dst, (Lit.int .i64 x).wf = true) (h1 : ∀ x ∈ src, (Lit.int .i64 x).wf = true) : WFr (regs dst src n) := by
  intro x v h
  unfold Go.Proofs.Ytlmendmncfibfaa.regs at h
  split at h
  · rename_i h2
    injection h with h
    subst h
    have : wf64 x := by
      rcases h2 with h2 | h2
      · exact h0 x (List.mem_of_mem_take h2)
      · exact h1 x (List.mem_of_mem_take h2)
    exact ⟨this, this⟩
  · cases h
theorem WFr.upd {f : Regs} (h : WFr f) {x v : Int} (hx : wf64 x) (hv : wf64 v) : WFr (upd f x (some v)) := by
  intro y u hy
  by_cases e : y = x
  · subst e
    rw [upd_same] at hy
    injection hy with hy
    subst hy
    exact ⟨hx, hv⟩
  · rw [upd_other _ _ e] at hy
    exact h y u hy
theorem step_own {w W0 wr W1 w2 : World} {b b1 n : Nat} {f : Regs} {t q0 v : Int} {dst : List Int} {S : Int → Int} {o : List S50} {row : Value} {xs : List S28} (hwf : WFr f) (hx : wf64 q0) (hv : wf64 v) (hg : Good t dst S o (upd f q0 (some v))) (hR : Kd.R k28 28 W1 b1 (fun k => W0.heap.size ≤ k) row xs)
    (hb : b < W0.heap.size) (hwb : w.heap.size ≤ b) (hk : Kp (fun _ => False) wr W1) (hB : Below w.heap.size w wr) (hM : MapI w2 b (n + 1) (upd f q0 (some v))) (hg2 : W1.grownBy w2 (some b)) :
    Aside0 (∃ f, WFr f ∧ Good t dst S o f ∧ Kd.R k28 28 w2 b1 (fun k => W0.heap.size ≤ k) row xs ∧ MapI w2 b (n + 1) f ∧ Below w.heap.size w w2) := by
  have hk2 : Kp (fun k => k = b) W1 w2 := (Kp.refl _ W1).grown hg2 (fun k hk => .inl (by simpa using hk.symm))
  have hk3 : Kp (fun k => k = b) wr w2 := (hk.mono (S' := fun k => k = b) (fun _ h => h.elim)).then_ hk2 (fun k hk => .inl hk)
  exact ⟨_, hwf.upd hx hv, hg, Kd.R_step hR (fun k hk hlt => hk2.block hlt (fun e => by omega)), hM, hB.trans (hk3.belowB (fun k hk => by omega) hB.size)⟩
theorem add0' (a : Addr) : a.add 0 = a := by cases a; simp [Addr.add]
theorem copies_own (A : Option Addr) (c : Nat) (l : List S50) (t : Int) (w : World) (hC : Kd.C k50 w A l.length l) (hc : l.length ≤ c) (hm : l.length ≤ 1000000) :
    Calls Try.prog 15 #[.slice A l.length c, .int .i64 t] w fun e w' => ∃ A' c', e = .returned (.slice A' (l.map (cp t)).length c') ∧ Kd.R k28 28 w' w.heap.size (fun k => w.heap.size ≤ k) (.slice A' (l.map (cp t)).length c') (l.map (cp t)) ∧ Below w.heap.size w w' := by
  refine (outofssa_copies.calls (l.length + 1) A c l t _ w hC hc (copies_f l t _ (by omega) (by omega))).mono ?_
  rintro e w' ⟨v, rfl, hS, hb⟩
  have hR := Kd.S_R (Kd.S_mono (Kd.S_bound hS) (fun k hk => hk.2.1) : Kd.S k28 28 w' w.heap.size (fun k => w.heap.size ≤ k) v (l.map (cp t)))
  obtain ⟨A', c', rfl, hle, hC'⟩ := Kd.R_reads hR
  exact ⟨A', c', rfl, hR, hb⟩
set_option maxRecDepth 100000 in
set_option maxHeartbeats 1000000 in
theorem seq_own (A : Option Addr) (c : Nat) (dst : List Int) (B : Option Addr) (c2 : Nat) (src : List Int) (t : Int) (os : List S50) (w : World) (hA : Kd.C (Kd.int .i64) w A dst.length dst) (hc : dst.length ≤ c) (hB : Kd.C (Kd.int .i64) w B src.length src) (hc2 : src.length ≤ c2) (hm : dst.length ≤ 1000) (hm2 : src.length ≤ 1000)
    (h1 : dst.length = src.length) (h2 : dst.Nodup) (h3 : t ∉ dst) (h4 : t ∉ src) (hos : ord dst src t = os) :
    Calls Try.prog 7 #[.slice A dst.length c, .slice B src.length c2, .int .i64 t] w fun e w' => ∃ A' c' b, e = .returned (.slice A' os.length c') ∧ Kd.R k28 28 w' b (fun k => w.heap.size ≤ k) (.slice A' os.length c') (os.map (cp 0)) ∧ Below w.heap.size w w' := by
  have hX := Aside0.mk (And.intro hA (And.intro hc (And.intro hB (And.intro hc2 (And.intro hm hm2)))))
  clear hA hB hc hc2
  have h1' : ((dst.length : Int) == src.length) = true := by simp [h1]
  have h1'' : ((dst.length : Int) != src.length) = false := by simp [h1]
  have hL := Aside0.mk h1
  obtain ⟨ps, hps⟩ : ∃ ps, List.zipWith S50.mk dst src = ps := ⟨_, rfl⟩
  have hpl : ps.length ≤ 1000 := by rw [← hps, List.length_zipWith]; omega
  have hpf : ∀ q ∈ ps, q.f0 ≠ t := fun q hq => zip_f0 t dst src h3 q (by rw [hps]; exact hq)
  have hol := ord_len dst src t
  have ho : fin t (mu (ps.filter np)) (ps.filter np) [] = ord dst src t := by rw [← hps]; rfl
  rw [hos] at ho hol
  have hY := Aside0.mk (And.intro h2 (And.intro h3 (And.intro h4 (And.intro hps (And.intro hpl (And.intro hpf (And.intro ho hol)))))))
  clear h2 h3 h4 h1 hps hpl hpf ho hol hos
  go_enter Try.func7, Try.ntmps7
  go_wp2_with (first
    | (go_at_call 12; refine (distinct_any A c dst true _ hX.out.1 hX.out.2.1 (by omega) (decide_eq_true hY.out.1)).mono ?_; rintro e w1 ⟨rfl, q1, rfl⟩)
    | (go_at_call 10; with_reducible refine (mem_any A c dst t false _ (Kd.C_drewN hX.out.1 _) hX.out.2.1 (by omega) (decide_eq_false hY.out.2.1)).mono ?_; rintro e w2 ⟨rfl, q2, rfl⟩)
    | (go_at_call 10; with_reducible refine (mem_any B c2 src t false _ (Kd.C_drewN hX.out.2.2.1 _) hX.out.2.2.2.1 (by omega) (decide_eq_false hY.out.2.2.1)).mono ?_; rintro e w3 ⟨rfl, q3, rfl⟩)
    | (go_at_call 14; refine (pairs_any A c dst B c2 src _ (Kd.C_drewN hX.out.1 _) hX.out.2.1 (Kd.C_drewN hX.out.2.2.1 _) hX.out.2.2.2.1 hL.out (by omega)).mono ?_; rw [hY.out.2.2.2.1]; rintro e w4 ⟨A4, c4, rfl, C4, B4⟩; have H4 := Aside0.mk (And.intro C4 B4); clear C4 B4)
    | (go_at_call 13; refine (order_any A4 c4 ps t _ H4.out.1 hY.out.2.2.2.2.1 hY.out.2.2.2.2.2.1).mono ?_; rw [hY.out.2.2.2.2.2.2.1]; rintro e w5 ⟨v5, b5, rfl, R5, B5⟩; obtain ⟨A5, c5, rfl, k5, C5⟩ := Kd.R_reads R5; have H5 := Aside0.mk (And.intro C5 (And.intro k5 (H4.out.2.trans (B5.mono H4.out.2.size)))); clear R5 B5 C5 k5)
    | (go_at_call 15; refine (copies_own A5 c5 os 0 _ H5.out.1 H5.out.2.1 (by have := hY.out.2.2.2.2.2.2.2; omega)).mono ?_; rintro e w6 ⟨A6, c6, rfl, R6, B6⟩; have H6 := Aside0.mk (And.intro R6 (And.intro H5.out.2.2.size (H5.out.2.2.trans (B6.mono H5.out.2.2.size)))); clear R6 B6))
  go_ret
  refine ⟨A6, c6, w5.heap.size, by simp, ?_, ?_⟩
  · have := Kd.R_mono H6.out.1 (fun k hk => Nat.le_trans H6.out.2.1 hk)
    rw [List.length_map] at this
    exact this
  · exact (by repeat (first | exact Below.refl _ _ | apply pw_below_drewN) : Below w.heap.size w (w.drewN _)).trans H6.out.2.2

set_option maxRecDepth 100000 in
set_option maxHeartbeats 1000000 in
theorem par_main (A : Option Addr) (c : Nat) (dst : List Int) (B : Option Addr) (c2 : Nat) (src : List Int) (t : Int) (w : World) (hc : dst.length ≤ c) (hA : Kd.C (Kd.int .i64) w A dst.length dst) (g0 : dst.length * 8 ≤ 140737488351232 ∧ ∀ x ∈ dst, (Lit.int .i64 x).wf = true) (hc2 : src.length ≤ c2) (hB : Kd.C (Kd.int .i64) w B src.length src) (g1 : src.length * 8 ≤ 140737488351232 ∧ ∀ x ∈ src, (Lit.int .i64 x).wf = true) (g2 : (Lit.int .i64 t).wf = true)
    (hm : dst.length ≤ 60) (hl : src.length = dst.length) (htd : t ∉ dst) (hts : t ∉ src) :
    Calls Try.prog 4 #[.slice A dst.length c, .slice B src.length c2, .int .i64 t] w fun e w' => e = .returned (.bool true) ∧ Below w.heap.size w w' := by
  have hmm := @run_makeMap Try.prog
  have hX := Aside0.mk (And.intro hA (And.intro hc (And.intro hB (And.intro hc2 (And.intro hl (And.intro htd hts))))))
  have hG := Aside0.mk (And.intro g0.2 (And.intro g1.2 g2))
  have i1 : ¬ (60 : Int) < dst.length := by omega
  have i2 : ((src.length : Int) != dst.length) = false := by simp [hl]
  have i3 : ((src.length : Int) == dst.length) = true := by simp [hl]
  have hms : src.length ≤ 60 := by omega
  clear hA hB hc hc2 g0 g1 g2 hl htd hts
  go_enter Try.func4, Try.ntmps4
  go_wp2_with (first
    | (go_at_call 10; with_reducible refine (mem_any A c dst t false _ hX.out.1 hX.out.2.1 (by omega) (decide_eq_false hX.out.2.2.2.2.2.1)).mono ?_; rintro e w1 ⟨rfl, q1, rfl⟩)
    | (go_at_call 10; with_reducible refine (mem_any B c2 src t false _ (Kd.C_drewN hX.out.2.2.1 _) hX.out.2.2.2.1 (by omega) (decide_eq_false hX.out.2.2.2.2.2.2)).mono ?_; rintro e w2 ⟨rfl, q2, rfl⟩))
  have hI0 : Aside0 (MapI ((w.drewN (q1 + q2)).alloc (.map #[] 0)) w.heap.size (2 * 0) (regs dst src 0) ∧ Below w.heap.size w ((w.drewN (q1 + q2)).alloc (.map #[] 0)) ∧ (dst.take 0).Nodup) := ⟨by have := MapI.made (w.drewN (q1 + q2)); rw [show regs dst src 0 = fun _ => none by funext x; simp [regs]]; exact this, below_alloc (pw_below_drewN (Below.refl _ _) _) _, by simp⟩
  obtain ⟨b, hb⟩ : ∃ b, b = w.heap.size := ⟨_, rfl⟩
  have hI1 : Aside0 (MapI ((w.drewN (q1 + q2)).alloc (.map #[] 0)) b (2 * 0) (regs dst src 0) ∧ Below w.heap.size w ((w.drewN (q1 + q2)).alloc (.map #[] 0)) ∧ (dst.take 0).Nodup) := by rw [hb]; exact hI0
  clear hI0
  rw [show Value.map (some w.heap.size) = Value.map (some b) by rw [hb]]
  have hbb := Aside0.mk (show w.heap.size ≤ b by omega)
  clear hb
  go_loopg [40] dst.length (fun q v wi => ∃ i : Nat, i + q = dst.length ∧ v = .int .i64 i ∧ Aside0 (MapI wi b (2 * i) (regs dst src i) ∧ Below w.heap.size w wi ∧ (dst.take i).Nodup))
  case atStart => exact ⟨0, by omega, rfl, hI1⟩
  case round =>
    obtain ⟨i, hi, rfl, hJ⟩ := hrel
    clear hI1
    by_cases hlt : i < dst.length
    · have hlti : (i : Int) < dst.length := by omega
      obtain ⟨gk1, rfl⟩ : ∃ q, gk = q + 1 := ⟨gk - 1, by omega⟩
      have hlt2 : i < src.length := by have := hX.out.2.2.2.2.1; omega
      have hlt2i : (i : Int) < src.length := by omega
      obtain ⟨ad, eA, a0⟩ := Kd.at_int (Kd.C_below hX.out.1 hJ.out.2.1) (i : Int) (by omega) hlti
      obtain ⟨bd, eB, b0⟩ := Kd.at_int (Kd.C_below hX.out.2.2.1 hJ.out.2.1) (i : Int) (by omega) hlt2i
      rw [rd_get dst i hlt, Int.toNat_natCast] at a0
      rw [rd_get src i hlt2, Int.toNat_natCast] at b0
      subst eA
      subst eB
      have hgx := hG.out.1 _ (List.getElem_mem hlt)
      have hgy := hG.out.2.1 _ (List.getElem_mem hlt2)
      have hrs := regs_succ dst src i hlt hlt2
      have hnd := nodup_take_succ dst i hlt hJ.out.2.2
      obtain ⟨x, hx⟩ : ∃ x, x = dst[i] := ⟨_, rfl⟩
      obtain ⟨y, hy⟩ : ∃ y, y = src[i] := ⟨_, rfl⟩
      rw [← hx] at a0 hgx hrs hnd
      rw [← hy] at b0 hgy hrs
      have hY := Aside0.mk (And.intro hgx (And.intro hgy (And.intro hrs (And.intro hnd hy.symm))))
      have hCt := Kd.C_take (Kd.C_below hX.out.1 hJ.out.2.1) (m := i) (by omega)
      have hci : i ≤ c := by have := hX.out.2.1; omega
      have hlen : (dst.take i).length = i := by rw [List.length_take]; omega
      rw [hlen] at hCt
      have hT := Aside0.mk (And.intro hCt (And.intro hci hlen))
      clear hgx hgy hrs hnd hx hy hCt hlen
      obtain ⟨di, hdi⟩ : ∃ l, dst.take i = l := ⟨_, rfl⟩
      rw [hdi] at hT hY
      by_cases hin : x ∈ di
      · have hin' := Aside0.mk hin
        clear hin hdi
        go_wp2_with fail
        refine (mem_is (some ad) c i di x true _ hT.out.1 hci hT.out.2.2 (by omega) (decide_eq_true hin'.out)).mono ?_
        rintro e w1 ⟨rfl, q3, rfl⟩
        go_wp2_with fail
        refine (awake_any _).mono ?_
        rintro e w2 ⟨rfl, B1⟩
        have H1 := Aside0.mk ((pw_below_drewN hJ.out.2.1 q3).trans (B1.mono hJ.out.2.1.size))
        clear B1
        go_wp2
        go_ret
        exact ⟨rfl, H1.out⟩
      · have hin' := Aside0.mk hin
        have hi2 : 2 * i + 2 < maxLen := by unfold maxLen; omega
        clear hin
        go_wp2_with fail
        refine (mem_is (some ad) c i di x false _ hT.out.1 hci hT.out.2.2 (by omega) (decide_eq_false hin'.out)).mono ?_
        rintro e w1 ⟨rfl, q3, rfl⟩
        go_wp2_with (at_mapUpdate; refine MapI.wp (MapI.drew hJ.out.1 _) hY.out.1 hY.out.1 (by omega) rfl (.tmp 51) (.tmp 52) (.tmp 53) rfl rfl rfl rfl ?_; intro w1 hM1 hg1; have hK1 : Kp (fun k => k = b) wr w1 := ((Kp.refl _ wr).drewN q3).grown hg1 (fun k hk => .inl (by simpa using hk.symm)); have hB1 := hJ.out.2.1.trans (hK1.belowB (fun k hk => by subst hk; exact hbb.out) hJ.out.2.1.size); have H1 := Aside0.mk (And.intro hM1 (And.intro hK1 hB1)); clear hM1 hg1 hK1 hB1)
        obtain ⟨bd', eB, b1⟩ := Kd.at_int (Kd.C_below hX.out.2.2.1 H1.out.2.2) (i : Int) (by omega) hlt2i
        injection eB with eB
        subst eB
        rw [rd_get src i hlt2, Int.toNat_natCast, hY.out.2.2.2.2] at b1
        refine still_tail 9 (by kernel_rfl) (by kernel_rfl) ?_
        simp only [List.take_succ_cons, List.take_zero, List.drop_succ_cons, List.drop_zero]
        repeat still_step
        refine wpStill_nil ?_
        refine MapI.wp (w := w1.drew) (MapI.drew H1.out.1 1) hY.out.2.1 hY.out.2.1 (by omega) rfl (.tmp 54) (.tmp 58) (.tmp 62) rfl rfl rfl rfl ?_
        intro w2 hM2 hg2
        rw [← hY.out.2.2.1] at hM2
        have hK2 : Kp (fun k => k = b) wr w2 := (H1.out.2.1.drewN 1).grown hg2 (fun k hk => .inl (by simpa using hk.symm))
        have hn2 : (dst.take (i + 1)).Nodup := hY.out.2.2.2.1.2 hin'.out
        have hZ := Aside0.mk (And.intro hM2 (And.intro (hJ.out.2.1.trans (hK2.belowB (fun k hk => by subst hk; exact hbb.out) hJ.out.2.1.size)) hn2))
        clear hM2 hg2 hK2 hn2 b1 H1
        go_wp2
        go_roundg gk1
        case rel => exact ⟨i + 1, by omega, by go_num, hZ⟩
        case measure => omega
    · have hnd : dst.Nodup := by have := hJ.out.2.2; rwa [List.take_of_length_le (by omega)] at this
      obtain rfl : i = dst.length := by omega
      have hgood := ord_good dst src t hX.out.2.2.2.2.1.symm hnd hX.out.2.2.2.2.2.1
      have hol := ord_len dst src t
      obtain ⟨os, hos⟩ : ∃ os, ord dst src t = os := ⟨_, rfl⟩
      rw [hos] at hgood hol
      have hS := Aside0.mk (And.intro hgood (And.intro hos (And.intro hol hnd)))
      clear hgood hol hos hnd hi hlt
      go_wp2_with fail
      refine (seq_own A c dst B c2 src t os _ (Kd.C_below hX.out.1 hJ.out.2.1) hX.out.2.1 (Kd.C_below hX.out.2.2.1 hJ.out.2.1) hX.out.2.2.2.1 (by omega) (by omega) hX.out.2.2.2.2.1.symm hS.out.2.2.2 hX.out.2.2.2.2.2.1 hX.out.2.2.2.2.2.2 hS.out.2.1).mono ?_
      rintro e w1 ⟨A1, c1, b1, rfl, R1, B1⟩
      have hol' : os.length ≤ 121 := by have := hS.out.2.2.1; omega
      have hbw := hJ.out.1.lt
      have H1 : Aside0 (∃ f, WFr f ∧ Good t dst (srcOf dst src) (os.drop 0) f ∧ Kd.R k28 28 w1 b1 (fun k => wr.heap.size ≤ k) (.slice A1 os.length c1) (os.map (cp 0)) ∧ MapI w1 b (2 * dst.length + 0) f ∧ Below w.heap.size w w1) := ⟨_, WFr.regs hG.out.1 hG.out.2.1, hS.out.1, R1, hJ.out.1.kept B1, hJ.out.2.1.trans (B1.mono hJ.out.2.1.size)⟩
      have hSD : Aside0 dst.Nodup := ⟨hS.out.2.2.2⟩
      clear R1 B1 hJ hS
      go_wp2_with fail
      obtain ⟨W0, hW0⟩ : ∃ W0, W0 = wr := ⟨_, rfl⟩
      rw [← hW0] at hbw H1
      clear hW0
      go_loopg [69] os.length (fun q v wi => ∃ j : Nat, j + q = os.length ∧ v = .int .i64 j ∧ Aside0 (∃ f, WFr f ∧ Good t dst (srcOf dst src) (os.drop j) f ∧ Kd.R k28 28 wi b1 (fun k => W0.heap.size ≤ k) (.slice A1 os.length c1) (os.map (cp 0)) ∧ MapI wi b (2 * dst.length + j) f ∧ Below w.heap.size w wi))
      case atStart => exact ⟨0, by omega, rfl, H1⟩
      case round =>
        obtain ⟨j, hj, rfl, hJ⟩ := hrel
        clear H1
        by_cases hlt : j < os.length
        · have hlti : (j : Int) < os.length := by omega
          obtain ⟨gk1, rfl⟩ : ∃ q, gk = q + 1 := ⟨gk - 1, by omega⟩
          obtain ⟨f, hwf, hg, hR, hM, hB⟩ := hJ.out
          obtain ⟨hz1, hz2, hC⟩ := Kd.R_reads' hR
          clear hz1 hz2
          obtain ⟨ad, N, cn, eA, a0, a1, a2, a3, a4, a5, a6, a7, al, aC⟩ := at28 hC j (by rw [List.length_map]; exact hlt)
          rw [List.getElem_map] at a0 a1 a2 a3 a4 a5 a6 a7 al aC
          subst eA
          obtain ⟨q, hq⟩ : ∃ q, q = os[j] := ⟨_, rfl⟩
          rw [← hq] at a0 a1 a2 a3 a4 a5 a6 a7 al aC
          rw [List.drop_eq_getElem_cons hlt, ← hq] at hg
          cases hg with
          | cons v hv hd hg' =>
          obtain ⟨nd, eN, n0⟩ := Kd.at_int (k := .i64) aC (0 : Int) (by omega) (by simp [cp])
          subst eN
          rw [show rd (cp 0 q).f3 0 = q.f1 by simp [cp, rd], show (Int.toNat 0) = 0 from rfl, add0'] at n0
          simp only [cp, List.length_cons, List.length_nil, Nat.zero_add] at a0 a1 a2 a3 a4 a5 a6 a7 al
          have hwq := (hwf _ _ hv).1
          have hwv := (hwf _ _ hv).2
          have hwd : wf64 q.f0 := by
            rcases hd with hd | hd
            · rw [hd]; exact hG.out.2.2
            · exact hG.out.1 _ hd
          have n1 : (wr.alloc (Obj.cells #[.int .i64 4, .int .i64 0, .int .i64 q.f0, .slice (some nd) 1 cn, .int .i64 0, .int .i64 0, .int .i64 0, .bool false] 28)).cell? nd = some (.int .i64 q.f1) := by
            have h1 := Below.heap_alloc wr (Obj.cells #[.int .i64 4, .int .i64 0, .int .i64 q.f0, .slice (some nd) 1 cn, .int .i64 0, .int .i64 0, .int .i64 0, .bool false] 28) nd.block (World.block_lt_of_cell? wr _ n0)
            simp only [World.cell?, h1] at n0 ⊢
            exact n0
          have hM1 := hM.kept (below_alloc (Below.refl _ _) (Obj.cells #[.int .i64 4, .int .i64 0, .int .i64 q.f0, .slice (some nd) 1 cn, .int .i64 0, .int .i64 0, .int .i64 0, .bool false] 28))
          have hlk := hM1.look hwq
          rw [hv, Option.getD_some, Option.isSome_some] at hlk
          have hR1 := Kd.R_alloc hR (Obj.cells #[.int .i64 4, .int .i64 0, .int .i64 q.f0, .slice (some nd) 1 cn, .int .i64 0, .int .i64 0, .int .i64 0, .bool false] 28)
          obtain ⟨q0, hq0⟩ : ∃ z, z = q.f0 := ⟨_, rfl⟩
          obtain ⟨q1, hq1⟩ : ∃ z, z = q.f1 := ⟨_, rfl⟩
          rw [← hq0] at a2 n1 hM1 hR1 hlk hwd hd hg'
          rw [← hq1] at n0 n1 hlk
          have hY := Aside0.mk (And.intro hM1 (And.intro hR1 (And.intro hwd (And.intro hwv (And.intro hd (And.intro hg' (And.intro hB hwf)))))))
          clear aC hM1 hR1 hwd hwv hg' hd hB hwf hR hM hC hv hwq hq0 hq1 hq hJ
          by_cases hqt : q0 = t
          · have x1 : (q0 != t) = false := by simp [hqt]
            have x2 : (q0 == t) = true := by simp [hqt]
            have hqt' := Aside0.mk hqt
            clear hqt
            go_wp2_with (at_mapUpdate; refine MapI.wp hY.out.1 hY.out.2.2.1 hY.out.2.2.2.1 (by unfold maxLen; omega) rfl (.tmp 106) (.tmp 108) (.tmp 109) rfl rfl rfl rfl ?_; intro w2 hM2 hg2; have hZ := step_own hY.out.2.2.2.2.2.2.2 hY.out.2.2.1 hY.out.2.2.2.1 hY.out.2.2.2.2.2.1 hY.out.2.1 hbw hbb.out ((Kp.refl _ wr).alloc _) hY.out.2.2.2.2.2.2.1 hM2 hg2; clear hM2 hg2 hlk n0 n1)
            go_roundg gk1
            case rel => exact ⟨j + 1, by omega, by go_num, by simpa [Nat.add_assoc] using hZ⟩
            case measure => omega
          · have x1 : (q0 != t) = true := by simp [hqt]
            have x2 : (q0 == t) = false := by simp [hqt]
            have hqd : q0 ∈ dst := hY.out.2.2.2.2.1.resolve_left hqt
            have hqt' := Aside0.mk hqd
            clear hqt hqd
            go_wp2_with fail
            refine (mem_is A c dst.length dst q0 true _ (Kd.C_alloc (Kd.C_below hX.out.1 hY.out.2.2.2.2.2.2.1) _) hX.out.2.1 rfl (by omega) (decide_eq_true hqt'.out)).mono ?_
            rintro e w2 ⟨rfl, q2, rfl⟩
            go_wp2_with (at_mapUpdate; refine MapI.wp (MapI.drew hY.out.1 _) hY.out.2.2.1 hY.out.2.2.2.1 (by unfold maxLen; omega) rfl (.tmp 106) (.tmp 108) (.tmp 109) rfl rfl rfl rfl ?_; intro w2 hM2 hg2; have hZ := step_own hY.out.2.2.2.2.2.2.2 hY.out.2.2.1 hY.out.2.2.2.1 hY.out.2.2.2.2.2.1 (Kd.R_drewN hY.out.2.1 _) hbw hbb.out (((Kp.refl _ wr).alloc _).drewN _) hY.out.2.2.2.2.2.2.1 hM2 hg2; clear hM2 hg2 hlk n0 n1)
            go_roundg gk1
            case rel => exact ⟨j + 1, by omega, by go_num, by simpa [Nat.add_assoc] using hZ⟩
            case measure => omega
        · obtain ⟨f, hwf, hg, hR, hM, hB⟩ := hJ.out
          rw [List.drop_eq_nil_of_le (by omega)] at hg
          have hfin : ∀ d ∈ dst, f d = some (srcOf dst src d) := by cases hg with | nil h => exact h
          have hI2 : Aside0 (MapI wr b (2 * dst.length + j) f ∧ Below w.heap.size w wr) := ⟨hM, hB⟩
          have hfin' := Aside0.mk hfin
          clear hwf hg hR hM hB hfin hJ
          go_wp2_with fail
          clear hlt hj
          go_loopg [113] dst.length (fun q v wi => ∃ j1 : Nat, j1 + q = dst.length ∧ v = .int .i64 j1 ∧ Aside0 (MapI wi b (2 * dst.length + j) f ∧ Below w.heap.size w wi))
          case atStart => exact ⟨0, by omega, rfl, hI2⟩
          case round =>
            obtain ⟨i, hi, rfl, hJ⟩ := hrel
            clear hI2
            by_cases hlt : i < dst.length
            · have hlti : (i : Int) < dst.length := by omega
              obtain ⟨gk1, rfl⟩ : ∃ q, gk = q + 1 := ⟨gk - 1, by omega⟩
              have hlt2 : i < src.length := by have := hX.out.2.2.2.2.1; omega
              have hlt2i : (i : Int) < src.length := by omega
              obtain ⟨ad, eA, a0⟩ := Kd.at_int (Kd.C_below hX.out.1 hJ.out.2) (i : Int) (by omega) hlti
              obtain ⟨bd, eB, b0⟩ := Kd.at_int (Kd.C_below hX.out.2.2.1 hJ.out.2) (i : Int) (by omega) hlt2i
              rw [rd_get dst i hlt, Int.toNat_natCast] at a0
              rw [rd_get src i hlt2, Int.toNat_natCast] at b0
              have hlk := hJ.out.1.look1 (hG.out.1 _ (List.getElem_mem hlt))
              rw [hfin'.out _ (List.getElem_mem hlt), srcOf_get dst src hSD.out i hlt hlt2, Option.getD_some] at hlk
              subst eA
              subst eB
              obtain ⟨x, hx⟩ : ∃ x, x = dst[i] := ⟨_, rfl⟩
              obtain ⟨y, hy⟩ : ∃ y, y = src[i] := ⟨_, rfl⟩
              rw [← hx] at a0 hlk
              rw [← hy] at b0 hlk
              have hlk1 : ∀ q, (Instr.lookup 33 (.map (some b)) (.int .i64 x) false).run Try.prog (wr.drewN q) = .ok (.int .i64 y) (wr.drewN q) := fun q => by
                have h9 := (MapI.drew hJ.out.1 q).look1 (x := x) (by rw [hx]; exact hG.out.1 _ (List.getElem_mem hlt))
                rw [hx, hfin'.out _ (List.getElem_mem hlt), srcOf_get dst src hSD.out i hlt hlt2, Option.getD_some, ← hx, ← hy] at h9
                exact h9
              clear hx hy
              go_wp2_with fail
              have hxx : (y != y) = false := by simp
              clear hlk
              go_quiet (fail)
              go_wp2
              go_roundg gk1
              case rel => exact ⟨i + 1, by omega, by go_num, ⟨MapI.drew hJ.out.1 _, pw_below_drewN hJ.out.2 _⟩⟩
              case measure => omega
            · go_wp2_with fail
              refine (awake_any _).mono ?_
              rintro e w2 ⟨rfl, B1⟩
              have H1 := Aside0.mk (hJ.out.2.trans (B1.mono hJ.out.2.size))
              clear B1
              go_wp2
              go_ret
              exact ⟨rfl, H1.out⟩

set_option maxRecDepth 100000 in
set_option maxHeartbeats 1000000 in
theorem par_walk (A : Option Addr) (c : Nat) (dst : List Int) (B : Option Addr) (c2 : Nat) (src : List Int) (t : Int) (w : World) (hc : dst.length ≤ c) (hA : Kd.C (Kd.int .i64) w A dst.length dst) (g0 : dst.length * 8 ≤ 140737488351232 ∧ ∀ x ∈ dst, (Lit.int .i64 x).wf = true) (hc2 : src.length ≤ c2) (hB : Kd.C (Kd.int .i64) w B src.length src) (g1 : src.length * 8 ≤ 140737488351232 ∧ ∀ x ∈ src, (Lit.int .i64 x).wf = true) (g2 : (Lit.int .i64 t).wf = true) :
    Calls Try.prog 4 #[.slice A dst.length c, .slice B src.length c2, .int .i64 t] w fun e w' => e = .returned (.bool true) ∧ Below w.heap.size w w' := by
  by_cases hm : dst.length ≤ 60
  · have i1 : ¬ (60 : Int) < dst.length := by omega
    by_cases hl : src.length = dst.length
    · by_cases htd : t ∈ dst
      · have i2 : ((src.length : Int) != dst.length) = false := by simp [hl]
        have i3 : ((src.length : Int) == dst.length) = true := by simp [hl]
        have hX := Aside0.mk (And.intro hA (And.intro hc htd))
        clear hA hB hc hc2 g0 g1 hl htd
        go_enter Try.func4, Try.ntmps4
        go_wp2_with fail
        refine (mem_any A c dst t true _ hX.out.1 hX.out.2.1 (by omega) (decide_eq_true hX.out.2.2)).mono ?_
        rintro e w1 ⟨rfl, q1, rfl⟩
        go_wp2_with fail
        refine (awake_any _).mono ?_
        rintro e w2 ⟨rfl, B1⟩
        have H1 := Aside0.mk ((pw_below_drewN (Below.refl w.heap.size w) q1).trans (B1.mono (Nat.le_refl _)))
        clear B1
        go_wp2
        go_ret
        exact ⟨rfl, H1.out⟩
      · by_cases hts : t ∈ src
        · have i2 : ((src.length : Int) != dst.length) = false := by simp [hl]
          have i3 : ((src.length : Int) == dst.length) = true := by simp [hl]
          have hX := Aside0.mk (And.intro hA (And.intro hc (And.intro htd (And.intro hB (And.intro hc2 hts)))))
          have hms : src.length ≤ 60 := by omega
          clear hA hB hc hc2 g0 g1 hl htd hts
          go_enter Try.func4, Try.ntmps4
          go_wp2_with fail
          refine (mem_any A c dst t false _ hX.out.1 hX.out.2.1 (by omega) (decide_eq_false hX.out.2.2.1)).mono ?_
          rintro e w1 ⟨rfl, q1, rfl⟩
          go_wp2_with fail
          refine (mem_any B c2 src t true _ (Kd.C_drewN hX.out.2.2.2.1 _) hX.out.2.2.2.2.1 (by omega) (decide_eq_true hX.out.2.2.2.2.2)).mono ?_
          rintro e w1 ⟨rfl, q2, rfl⟩
          go_wp2_with fail
          refine (awake_any _).mono ?_
          rintro e w2 ⟨rfl, B1⟩
          have H1 := Aside0.mk ((pw_below_drewN (Below.refl w.heap.size w) (q1 + q2)).trans (B1.mono (Nat.le_refl _)))
          clear B1
          go_wp2
          go_ret
          exact ⟨rfl, H1.out⟩
        · exact par_main A c dst B c2 src t w hc hA g0 hc2 hB g1 g2 hm hl htd hts
    · have i2 : ((src.length : Int) != dst.length) = true := by simp; omega
      have i3 : ((src.length : Int) == dst.length) = false := by simp; omega
      clear hl hA hB
      go_enter Try.func4, Try.ntmps4
      go_wp2_with fail
      refine (awake_any _).mono ?_
      rintro e w2 ⟨rfl, B1⟩
      have H1 := Aside0.mk B1
      clear B1
      go_wp2
      go_ret
      exact ⟨rfl, H1.out⟩
  · have i1 : (60 : Int) < dst.length := by omega
    clear hA hB
    go_enter Try.func4, Try.ntmps4
    go_wp2_with fail
    refine (awake_any _).mono ?_
    rintro e w2 ⟨rfl, B1⟩
    have H1 := Aside0.mk B1
    clear B1
    go_wp2
    go_ret
    exact ⟨rfl, H1.out⟩
end Go.Proofs.Ytlmendmncfibfaa
