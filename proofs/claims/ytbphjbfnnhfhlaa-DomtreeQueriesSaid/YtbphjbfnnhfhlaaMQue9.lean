import Derived.Laws.EntriesVeiled
import Derived.RangeFuncNested
import Derived.Stop.RegionWithIn
import Derived.Sort.LoopGhostIn
import Derived.RangeFuncBox
import Derived.RangeFuncLeaves
import Derived.Shelf.Abstract
import Derived.Test.YtbphjbfnnhfhlaaMQue8
section
/- Trees given by lists of parents, in plain lists: depths and ways up. -/
set_option linter.unusedVariables false
set_option linter.unusedSimpArgs false
set_option linter.unusedSectionVars false
namespace Go.Proofs.Ytbphjbfnnhfhlaa
open Go.RowKit Go.Proofs.YtbphjbfnnhfhlaaW.PrintWords Go.Proofs.Ytbphjbfnnhfhlaa.PDigraphTells Mem

def idx (l : List Int) (x : Int) : Prop := 0 ≤ x ∧ x < l.length
instance (l : List Int) (x : Int) : Decidable (idx l x) := by unfold idx; infer_instance
/-- x lies k steps below an index that is its own element. -/
inductive Up (l : List Int) : Int → Nat → Prop
  | root {x : Int} (h : idx l x) (e : rd l x = x) : Up l x 0
  | step {x : Int} {k : Nat} (h : idx l x) (e : rd l x ≠ x) (u : Up l (rd l x) k) : Up l x (k + 1)
/-- y lies on the way up from x. -/
inductive On (l : List Int) (y : Int) : Int → Prop
  | refl : On l y y
  | step {x : Int} (h : idx l x) (e : rd l x ≠ x) (u : On l y (rd l x)) : On l y x
theorem Up.idx {l : List Int} {x : Int} {k : Nat} (h : Up l x k) : idx l x := by cases h <;> assumption
theorem Up.uniq {l : List Int} {x : Int} {k j : Nat} (h : Up l x k) (h2 : Up l x j) : k = j := by
  induction h generalizing j with
  | root h e => cases h2 with
    | root => rfl
    | step _ e2 _ => exact absurd e e2
  | step h e u ih => cases h2 with
    | root _ e2 => exact absurd e2 e
    | step _ _ u2 => rw [ih u2]
theorem Up.pred {l : List Int} {x : Int} {k : Nat} (h : Up l x k) (e : rd l x ≠ x) : ∃ j, k = j + 1 ∧ Up l (rd l x) j := by
  cases h with
  | root _ e2 => exact absurd e2 e
  | step _ _ u => exact ⟨_, rfl, u⟩
theorem Up.on {l : List Int} {y x : Int} {k : Nat} (h : Up l x k) (o : On l y x) : ∃ j, j ≤ k ∧ Up l y j := by
  induction o generalizing k with
  | refl => exact ⟨k, Nat.le_refl _, h⟩
  | step _ e _ ih =>
    obtain ⟨j, rfl, u⟩ := h.pred e
    obtain ⟨i, hi, u2⟩ := ih u
    exact ⟨i, by omega, u2⟩
theorem Up.cyc {l : List Int} {x : Int} {k : Nat} (e : rd l x ≠ x) (o : On l x (rd l x)) : ¬ Up l x k := by
  intro h
  obtain ⟨j, rfl, u⟩ := h.pred e
  obtain ⟨i, hi, u2⟩ := u.on o
  have := h.uniq u2
  omega
theorem Up.chain {l : List Int} {x : Int} {k : Nat} (h : Up l x k) : ∃ L : List Int, L.length = k + 1 ∧ L.Nodup ∧ ∀ y ∈ L, Go.Proofs.Ytbphjbfnnhfhlaa.idx l y ∧ ∃ j, j ≤ k ∧ Up l y j := by
  induction h with
  | @root x h e => exact ⟨[x], rfl, by simp, fun y hy => by rw [List.mem_singleton.1 hy]; exact ⟨h, 0, Nat.le_refl _, .root h e⟩⟩
  | @step x k h e u ih =>
    obtain ⟨L, h1, h2, h3⟩ := ih
    refine ⟨x :: L, by rw [List.length_cons, h1], List.nodup_cons.2 ⟨fun hx => ?_, h2⟩, fun y hy => ?_⟩
    · obtain ⟨_, j, hj, u2⟩ := h3 x hx
      have := (Up.step h e u).uniq u2
      omega
    · rcases List.mem_cons.1 hy with rfl | hy
      · exact ⟨h, k + 1, Nat.le_refl _, .step h e u⟩
      · obtain ⟨h4, j, hj, u2⟩ := h3 y hy
        exact ⟨h4, j, by omega, u2⟩
theorem Up.lt {l : List Int} {x : Int} {k : Nat} (h : Up l x k) : k < l.length := by
  obtain ⟨L, h1, h2, h3⟩ := h.chain
  have := nodup_len L (nodes (List.replicate l.length [])) h2 (fun y hy => (mem_nodes _ y).2 (by
    have := (h3 y hy).1
    unfold Go.Proofs.Ytbphjbfnnhfhlaa.idx at this
    unfold isNode
    rw [List.length_replicate]
    exact this))
  rw [nodes_len, List.length_replicate] at this
  omega
theorem rd_set (d : List Int) (x v y : Int) (hx : idx d x) (hy : 0 ≤ y) : rd (d.set x.toNat v) y = if y = x then v else rd d y := by
  unfold idx at hx
  unfold rd
  rw [List.getD_eq_getElem?_getD, List.getD_eq_getElem?_getD, List.getElem?_set]
  by_cases e : y = x
  · subst e; rw [if_pos rfl, if_pos rfl, if_pos (by omega)]; rfl
  · rw [if_neg e, if_neg (by omega)]

/-- What the depths hold while the search goes on: -2 not met, -3 being visited, else the depth. -/
structure Dp (l d : List Int) : Prop where
  len : d.length = l.length
  at_ : ∀ x, idx l x → rd d x = -2 ∨ rd d x = -3 ∨ ∃ k : Nat, rd d x = k ∧ Up l x k
/-- What a visit answers. -/
structure Vis (l d : List Int) (x : Int) (b : Bool) (d' : List Int) : Prop where
  yes : b = true → Dp l d' ∧ (∃ k : Nat, rd d' x = k ∧ Up l x k) ∧ (∀ y, idx l y → (rd d' y = -3 ↔ rd d y = -3)) ∧ ∀ y, idx l y → rd d' y = -2 → rd d y = -2
  no : b = false → (∀ k, ¬ Up l x k) ∨ ∃ y, idx l y ∧ rd d y = -3 ∧ On l y x
def cnt2 (d : List Int) : Nat := (d.filter (· == -2)).length
theorem cnt2_set : ∀ (d : List Int) (i : Nat) (h : i < d.length), d[i] = -2 → ∀ v, v ≠ -2 → cnt2 (d.set i v) + 1 = cnt2 d
  | a :: d, 0, _, e, v, hv => by
    have e : a = -2 := e
    subst e
    unfold cnt2
    rw [List.set_cons_zero, List.filter_cons, List.filter_cons, if_neg (by simpa using hv), if_pos (by simp), List.length_cons]
  | a :: d, i + 1, h, e, v, hv => by
    have := cnt2_set d i (by simpa using h) (by simpa using e) v hv
    unfold cnt2 at this ⊢
    rw [List.set_cons_succ, List.filter_cons, List.filter_cons]
    split <;> (try simp only [List.length_cons]) <;> omega
section
variable {l d : List Int} {x : Int} (hx : idx l x) (h : Dp l d)
include hx h
theorem vis_set (hs : rd d x ≠ -2) : Vis l d x (decide (0 ≤ rd d x)) d := by
  constructor
  · intro hb
    have hb := of_decide_eq_true hb
    refine ⟨h, ?_, fun y _ => Iff.rfl, fun y _ h9 => h9⟩
    rcases h.at_ x hx with h1 | h1 | h1
    · omega
    · omega
    · exact h1
  · intro hb
    have hb := of_decide_eq_false hb
    rcases h.at_ x hx with h1 | h1 | ⟨k, h1, _⟩
    · exact absurd h1 hs
    · exact .inr ⟨x, hx, h1, .refl⟩
    · omega
theorem act (hs : rd d x = -2) : Dp l (d.set x.toNat (-3)) ∧ cnt2 (d.set x.toNat (-3)) + 1 = cnt2 d ∧ rd (d.set x.toNat (-3)) x = -3 ∧ ∀ y, idx l y → y ≠ x → rd (d.set x.toNat (-3)) y = rd d y := by
  have hxd : idx d x := by unfold idx at hx ⊢; rw [h.len]; exact hx
  refine ⟨⟨by rw [List.length_set]; exact h.len, fun y hy => ?_⟩, ?_, by rw [rd_set d x _ x hxd hx.1, if_pos rfl], fun y hy hn => by rw [rd_set d x _ y hxd hy.1, if_neg hn]⟩
  · rw [rd_set d x _ y hxd hy.1]
    split
    · exact .inr (.inl rfl)
    · exact h.at_ y hy
  · have hl : x.toNat < d.length := by unfold idx at hxd; omega
    refine cnt2_set d x.toNat hl ?_ (-3) (by omega)
    have := rd_get d x.toNat hl
    rw [Int.toNat_of_nonneg hx.1, hs] at this
    exact this.symm
theorem vis_root (hs : rd d x = -2) (hr : rd l x = x) : Vis l d x true ((d.set x.toNat (-3)).set x.toNat 0) := by
  have hxd : idx d x := by unfold idx at hx ⊢; rw [h.len]; exact hx
  have hg : ∀ y, idx l y → rd ((d.set x.toNat (-3)).set x.toNat 0) y = if y = x then 0 else rd d y := fun y hy => by
    rw [rd_set _ x _ y (by unfold idx at hxd ⊢; rw [List.length_set]; exact hxd) hy.1, rd_set d x _ y hxd hy.1]
    split <;> rfl
  refine ⟨fun _ => ⟨⟨by rw [List.length_set, List.length_set]; exact h.len, fun y hy => ?_⟩, ⟨0, by rw [hg x hx, if_pos rfl]; rfl, .root hx hr⟩, fun y hy => ?_, fun y hy h9 => ?_⟩, fun hb => by cases hb⟩
  · rw [hg y hy]
    split
    · rename_i e1; rw [e1]; exact .inr (.inr ⟨0, rfl, .root hx hr⟩)
    · exact h.at_ y hy
  · rw [hg y hy]
    split
    · rename_i e1; rw [e1, hs]; omega
    · exact Iff.rfl
  · rw [hg y hy] at h9
    split at h9
    · omega
    · exact h9
theorem vis_low (hr : rd l x < 0) (d' : List Int) : Vis l d x false d' := by
  refine ⟨fun hb => (by cases hb), fun _ => .inl fun k hu => ?_⟩
  have hne : rd l x ≠ x := by unfold idx at hx; omega
  obtain ⟨j, _, u⟩ := hu.pred hne
  have := u.idx.1
  omega
theorem vis_up_no (hs : rd d x = -2) (hr : rd l x ≠ x) {d2 : List Int} (hv : Vis l (d.set x.toNat (-3)) (rd l x) false d2) (d' : List Int) : Vis l d x false d' := by
  obtain ⟨_, _, h3, h4⟩ := act hx h hs
  refine ⟨fun hb => (by cases hb), fun _ => ?_⟩
  rcases hv.no rfl with h1 | ⟨y, hy, h1, o⟩
  · exact .inl fun k hu => by obtain ⟨j, _, u⟩ := hu.pred hr; exact h1 j u
  · by_cases e1 : y = x
    · subst e1; exact .inl fun k => Up.cyc hr o
    · exact .inr ⟨y, hy, by rw [← h4 y hy e1]; exact h1, .step hx hr o⟩
theorem vis_up_yes (hs : rd d x = -2) (hr : rd l x ≠ x) {d2 : List Int} (hv : Vis l (d.set x.toNat (-3)) (rd l x) true d2) : ∃ k : Nat, rd d2 (rd l x) = k ∧ k < l.length ∧ idx d2 x ∧ idx d2 (rd l x) ∧ Vis l d x true (d2.set x.toNat ((k : Int) + 1)) := by
  obtain ⟨_, _, h3, h4⟩ := act hx h hs
  obtain ⟨g1, ⟨k, g2, g3⟩, g4, g5⟩ := hv.yes rfl
  have hxd : idx d2 x := by unfold idx at hx ⊢; rw [g1.len]; exact hx
  have hg : ∀ y, idx l y → rd (d2.set x.toNat ((k : Int) + 1)) y = if y = x then (k : Int) + 1 else rd d2 y := fun y hy => rd_set d2 x _ y hxd hy.1
  have hux : Up l x (k + 1) := .step hx hr g3
  refine ⟨k, g2, g3.lt, hxd, by have := g3.idx; unfold idx at this ⊢; rw [g1.len]; exact this, fun _ => ⟨⟨by rw [List.length_set]; exact g1.len, fun y hy => ?_⟩, ⟨k + 1, by rw [hg x hx, if_pos rfl]; omega, hux⟩, fun y hy => ?_, fun y hy h9 => ?_⟩, fun hb => (by cases hb)⟩
  · rw [hg y hy]
    split
    · rename_i e1; rw [e1]; exact .inr (.inr ⟨k + 1, by omega, hux⟩)
    · exact g1.at_ y hy
  · rw [hg y hy]
    split
    · rename_i e1; rw [e1, hs]; omega
    · rename_i e1; rw [g4 y hy, h4 y hy e1]
  · rw [hg y hy] at h9
    split at h9
    · omega
    · rename_i e1; rw [← h4 y hy e1]; exact g5 y hy h9
end
end Go.Proofs.Ytbphjbfnnhfhlaa
end

section
/- The walk of depths' inner visit. -/
set_option linter.unusedVariables false
set_option linter.unusedSimpArgs false
set_option linter.unusedSectionVars false
namespace Go.Proofs.Ytbphjbfnnhfhlaa
open Go.RowKit Go.Proofs.YtbphjbfnnhfhlaaW.PrintWords Go.Proofs.Ytbphjbfnnhfhlaa.PDigraphTells Mem

/-- depths' variables in memory: the depths' row d (variable bd), the list l (variable bl), the visit itself (variable bv). -/
structure Dw (w wi : World) (n : Nat) (A : Option Addr) (cl bd bl bv : Nat) (Ad : Option Addr) (cd lo hi : Nat) (l d : List Int) : Prop where
  b : Below w.heap.size w wi
  C : Kd.C (Kd.int .i64) w A n l
  hd : wi.heap[bd]? = some (.cells #[.slice Ad n cd] 28 (0, 0))
  hl : wi.heap[bl]? = some (.cells #[.slice A n cl] 28 (0, 0))
  hv : wi.heap[bv]? = some (.cells #[.func (.func 48) #[] #[.pointer (some ⟨bd, 0, none⟩), .pointer (some ⟨bl, 0, none⟩), .pointer (some ⟨bv, 0, none⟩)]] 62 (0, 0))
  D : Kd.R (Kd.int .i64) 3 wi 0 (fun k => lo ≤ k ∧ k < hi) (.slice Ad n cd) d
  o1 : w.heap.size ≤ lo
  o2 : bl < lo
  o3 : hi ≤ bd
  o4 : hi ≤ bv
  ll : l.length = n
section
variable {w wi wj : World} {n : Nat} {A : Option Addr} {cl bd bl bv : Nat} {Ad : Option Addr} {cd lo hi : Nat} {l d : List Int} (h : Dw w wi n A cl bd bl bv Ad cd lo hi l d)
include h
theorem Dw.step (hb : Below wi.heap.size wi wj) : Dw w wj n A cl bd bl bv Ad cd lo hi l d :=
  ⟨h.b.trans (hb.mono h.b.size), h.C, (hb.block _ (blk_lt' h.hd)).trans h.hd, (hb.block _ (blk_lt' h.hl)).trans h.hl, (hb.block _ (blk_lt' h.hv)).trans h.hv, Kd.R_step h.D (fun k _ hlt => hb.block k hlt), h.o1, h.o2, h.o3, h.o4, h.ll⟩
theorem Dw.dl : d.length = n := (Kd.R_reads' h.D).1.symm
theorem Dw.row (hn : 0 < n) : ∃ g, Ad = some ⟨g, 0, none⟩ := by
  obtain ⟨g, cap, ev, _⟩ := Kd.R_form h.D (by rw [h.dl]; exact hn)
  injection ev with e1
  exact ⟨g, e1⟩
theorem Dw.cd_ : wi.cell? ⟨bd, 0, none⟩ = some (.slice Ad n cd) := cell_at h.hd rfl
theorem Dw.cl_ : wi.cell? ⟨bl, 0, none⟩ = some (.slice A n cl) := cell_at h.hl rfl
theorem Dw.cv_ : wi.cell? ⟨bv, 0, none⟩ = some (.func (.func 48) #[] #[.pointer (some ⟨bd, 0, none⟩), .pointer (some ⟨bl, 0, none⟩), .pointer (some ⟨bv, 0, none⟩)]) := cell_at h.hv rfl
theorem Dw.l_ {x : Int} (h0 : 0 ≤ x) (h1 : x < n) : ∃ ad, A = some ad ∧ wi.cell? (ad.add x.toNat) = some (.int .i64 (rd l x)) := Kd.at_int (Kd.C_below h.C h.b) x h0 h1
end
theorem Dw.d_ {w wi : World} {n : Nat} {A : Option Addr} {cl bd bl bv g cd lo hi : Nat} {l d : List Int} (h : Dw w wi n A cl bd bl bv (some ⟨g, 0, none⟩) cd lo hi l d) {x : Int} (h0 : 0 ≤ x) (h1 : x < n) : wi.cell? ⟨g, x.toNat, none⟩ = some (.int .i64 (rd d x)) ∧ wi.frozen? ⟨g, x.toNat, none⟩ = false := Kd.R_celln 0 h.D x h0 h1
theorem Dw.put {w wi : World} {n : Nat} {A : Option Addr} {cl bd bl bv g cd lo hi : Nat} {l d : List Int} (h : Dw w wi n A cl bd bl bv (some ⟨g, 0, none⟩) cd lo hi l d) (x v : Int) : Dw w (wi.setCell ⟨g, x.toNat, none⟩ (.int .i64 v)) n A cl bd bl bv (some ⟨g, 0, none⟩) cd lo hi l (d.set x.toNat v) := by
  have hg := h.D.1 g rfl
  have h1 := h.o1; have h2 := h.o2; have h3 := h.o3; have h4 := h.o4
  have hk : Kp (fun k => k = g) wi (wi.setCell ⟨g, x.toNat, none⟩ (.int .i64 v)) := (Kp.refl (fun k => k = g) wi).setCell (p := ⟨g, x.toNat, none⟩) (.inl rfl) _
  exact ⟨h.b.trans (hk.belowB (fun k hk => by subst hk; omega) h.b.size), h.C, hk.blk h.hd (by omega), hk.blk h.hl (by omega), hk.blk h.hv (by omega), (Kd.R_putg h.D x v).1, h.o1, h.o2, h.o3, h.o4, h.ll⟩

set_option maxRecDepth 100000 in
set_option maxHeartbeats 2000000 in
theorem visit_met (w : World) (n : Nat) (A : Option Addr) (cl bd bl bv g cd lo hi : Nat) (l d : List Int) (wi : World) (x : Int) (hD : Dw w wi n A cl bd bl bv (some ⟨g, 0, none⟩) cd lo hi l d) (hp : Dp l d) (hx : idx l x) (hs : rd d x ≠ -2) :
    Calls Try.prog 48 #[.int .i64 x, .pointer (some ⟨bd, 0, none⟩), .pointer (some ⟨bl, 0, none⟩), .pointer (some ⟨bv, 0, none⟩)] wi fun e w' => ∃ b d', e = .returned (.bool b) ∧ Vis l d x b d' ∧ Dw w w' n A cl bd bl bv (some ⟨g, 0, none⟩) cd lo hi l d' := by
  have x0 := hx.1
  have x1 : x < n := by have := hx.2; rw [hD.ll] at this; exact this
  have d1 := hD.cd_
  obtain ⟨d2, f2⟩ := hD.d_ x0 x1
  have hN := Aside0.mk (And.intro (vis_set hx hp hs) hD)
  obtain ⟨v, hv⟩ : ∃ v, rd d x = v := ⟨_, rfl⟩
  rw [hv] at d2 hs hN
  have e1 : (v != -2) = true := by simpa using hs
  clear hD hp hx hv hs
  go_enter Try.func48, Try.ntmps48
  go_wp2
  go_ret
  exact ⟨_, d, rfl, hN.out⟩

set_option maxRecDepth 100000 in
set_option maxHeartbeats 2000000 in
theorem visit_any (w : World) (n : Nat) (A : Option Addr) (cl bd bl bv g cd lo hi : Nat) (l : List Int) (hl : ∀ x, idx l x → -1 ≤ rd l x ∧ rd l x < n) (hn : n ≤ 70) :
    ∀ (m : Nat) (d : List Int) (wi : World) (x : Int), cnt2 d ≤ m → Dw w wi n A cl bd bl bv (some ⟨g, 0, none⟩) cd lo hi l d → Dp l d → idx l x →
    Calls Try.prog 48 #[.int .i64 x, .pointer (some ⟨bd, 0, none⟩), .pointer (some ⟨bl, 0, none⟩), .pointer (some ⟨bv, 0, none⟩)] wi fun e w' => ∃ b d', e = .returned (.bool b) ∧ Vis l d x b d' ∧ Dw w w' n A cl bd bl bv (some ⟨g, 0, none⟩) cd lo hi l d' := by
  intro m
  induction m with
  | zero =>
    intro d wi x hm hD hp hx
    by_cases hs : rd d x = -2
    · have := (act hx hp hs).2.1
      omega
    · exact visit_met w n A cl bd bl bv g cd lo hi l d wi x hD hp hx hs
  | succ m ih =>
    intro d wi x hm hD hp hx
    by_cases hs : rd d x = -2
    · have x0 := hx.1
      have x1 : x < n := by have := hx.2; rw [hD.ll] at this; exact this
      obtain ⟨a1, a2, a3, a4⟩ := act hx hp hs
      have d1 := hD.cd_
      obtain ⟨d2, f2⟩ := hD.d_ x0 x1
      rw [hs] at d2
      have hD1 := hD.put x (-3)
      have hX := Aside0.mk (And.intro (show cnt2 (d.set x.toNat (-3)) ≤ m by omega) (And.intro hD (And.intro hp (And.intro hx (And.intro hs (And.intro a1 hD1))))))
      have hl' := Aside0.mk hl
      have ih' := Aside0.mk ih
      have g1 := hD1.cl_
      have g2 := hD1.cd_
      have g3 := hD1.cv_
      obtain ⟨la, eA, g4⟩ := hD1.l_ x0 x1
      subst eA
      clear hm hD hp hx hl ih hs a1 a2 a3 a4
      by_cases hr : rd l x = x
      · obtain ⟨_, g5⟩ := hD1.d_ x0 x1
        rw [hr] at g4
        have hN : Aside0 (Vis l d x true ((d.set x.toNat (-3)).set x.toNat 0) ∧ Dw w ((wi.setCell ⟨g, x.toNat, none⟩ (.int .i64 (-3))).setCell ⟨g, x.toNat, none⟩ (.int .i64 0)) n (some la) cl bd bl bv (some ⟨g, 0, none⟩) cd lo hi l ((d.set x.toNat (-3)).set x.toNat 0)) := ⟨vis_root hX.out.2.2.2.1 hX.out.2.2.1 hX.out.2.2.2.2.1 hr, hD1.put x 0⟩
        clear hr hD1
        go_enter Try.func48, Try.ntmps48
        go_wp2
        go_ret
        exact ⟨true, _, rfl, hN.out⟩
      · by_cases hneg : rd l x < 0
        · have hN : Aside0 (Vis l d x false (d.set x.toNat (-3)) ∧ Dw w (wi.setCell ⟨g, x.toNat, none⟩ (.int .i64 (-3))) n (some la) cl bd bl bv (some ⟨g, 0, none⟩) cd lo hi l (d.set x.toNat (-3))) := ⟨vis_low hX.out.2.2.2.1 hX.out.2.2.1 hneg _, hD1⟩
          obtain ⟨p, hp⟩ : ∃ p, rd l x = p := ⟨_, rfl⟩
          rw [hp] at g4 hr hneg
          have e1 : (p == x) = false := by simpa using hr
          clear hp hr hD1
          go_enter Try.func48, Try.ntmps48
          go_wp2
          go_ret
          exact ⟨false, _, rfl, hN.out⟩
        · have hpi : idx l (rd l x) := ⟨by omega, by have := (hl'.out x hX.out.2.2.2.1).2; have := hX.out.2.1.ll; omega⟩
          have hcall := ih'.out (d.set x.toNat (-3)) (wi.setCell ⟨g, x.toNat, none⟩ (.int .i64 (-3))) (rd l x) hX.out.1 hD1 hX.out.2.2.2.2.2.1 hpi
          have hr' := Aside0.mk hr
          have hv0 := Aside0.mk (fun (d2 : List Int) (hv : Vis l (d.set x.toNat (-3)) (rd l x) false d2) => vis_up_no hX.out.2.2.2.1 hX.out.2.2.1 hX.out.2.2.2.2.1 hr'.out hv d2)
          have hv1 := Aside0.mk (fun (d2 : List Int) (hv : Vis l (d.set x.toNat (-3)) (rd l x) true d2) => vis_up_yes hX.out.2.2.2.1 hX.out.2.2.1 hX.out.2.2.2.2.1 hr'.out hv)
          have hpi' : Aside0 (0 ≤ rd l x ∧ rd l x < n) := ⟨hpi.1, by have := hpi.2; rw [hX.out.2.1.ll] at this; exact this⟩
          obtain ⟨p, hp⟩ : ∃ p, rd l x = p := ⟨_, rfl⟩
          rw [hp] at g4 hr hneg hcall hv0 hv1 hpi'
          have e1 : (p == x) = false := by simpa using hr
          have e2 : decide (p < 0) = false := decide_eq_false hneg
          have hcall := Aside0.mk hcall
          clear hp hr hD1 hpi hneg
          go_enter Try.func48, Try.ntmps48
          go_wp2_with fail
          refine hcall.out.mono ?_
          rintro e w2 ⟨b, d9, rfl, hv, hD2⟩
          clear g1 g2 g3 g4 d1 d2 f2 hcall
          cases b
          · have hN : Aside0 (Vis l d x false d9 ∧ Dw w w2 n (some la) cl bd bl bv (some ⟨g, 0, none⟩) cd lo hi l d9) := ⟨hv0.out d9 hv, hD2⟩
            clear hv hD2
            go_wp2
            go_ret
            exact ⟨false, _, rfl, hN.out⟩
          · obtain ⟨k, h1, h2, h3, h4, h5⟩ := hv1.out d9 hv
            have hk : k < 70 := by have := hX.out.2.1.ll; omega
            have d1 := hD2.cd_
            obtain ⟨d2, _⟩ := hD2.d_ hpi'.out.1 hpi'.out.2
            obtain ⟨d3, f3⟩ := hD2.d_ x0 x1
            rw [h1] at d2
            have hN : Aside0 (∀ W, W = w2.drew → Vis l d x true (d9.set x.toNat ((k : Int) + 1)) ∧ Dw w (W.setCell ⟨g, x.toNat, none⟩ (.int .i64 ((k : Int) + 1))) n (some la) cl bd bl bv (some ⟨g, 0, none⟩) cd lo hi l (d9.set x.toNat ((k : Int) + 1))) := ⟨fun W hW => by subst hW; exact ⟨h5, (hD2.step (pw_below_drewN (Below.refl _ _) 1)).put x _⟩⟩
            obtain ⟨p0, p1⟩ := hpi'.out
            have z1 : IntKind.i64.wrap ((k : Int) + 1) = (k : Int) + 1 := IntWalk.i64_in _ (by omega)
            clear hv h1 h2 h3 h4 h5 hD2
            go_wp2_with fail
            refine still_tail 8 (by kernel_rfl) (by kernel_rfl) ?_
            simp only [List.take_succ_cons, List.take_zero, List.drop_succ_cons, List.drop_zero]
            repeat still_step
            refine wpStill_nil ?_
            obtain ⟨W, hW⟩ : ∃ W, w2.drew = W := ⟨_, rfl⟩
            have hM := Aside0.mk (hN.out W hW.symm)
            have f4 : W.frozen? ⟨g, x.toNat, none⟩ = false := by rw [← hW]; exact f3
            have f5 : W.cell? ⟨g, x.toNat, none⟩ = some (.int .i64 (rd d9 x)) := by rw [← hW]; exact d3
            rw [hW]
            clear hW hN d1 d2 d3 f3
            go_wp2
            go_ret
            exact ⟨true, _, rfl, hM.out⟩
    · exact visit_met w n A cl bd bl bv g cd lo hi l d wi x hD hp hx hs
end Go.Proofs.Ytbphjbfnnhfhlaa
end

section
/- The walk of depths. -/
set_option linter.unusedVariables false
set_option linter.unusedSimpArgs false
set_option linter.unusedSectionVars false
namespace Go.Proofs.Ytbphjbfnnhfhlaa
open Go.RowKit Go.Proofs.YtbphjbfnnhfhlaaW.PrintWords Go.Proofs.Ytbphjbfnnhfhlaa.PDigraphTells Mem

def inR (l : List Int) (x : Int) : Prop := -1 ≤ rd l x ∧ rd l x < l.length
/-- How many of the first j elements are their own index. -/
def roots (l : List Int) (j : Nat) : Nat := ((List.range j).filter fun (i : Nat) => decide (rd l (i : Int) = (i : Int))).length
theorem roots_succ (l : List Int) (j : Nat) : roots l (j + 1) = roots l j + if rd l (j : Int) = (j : Int) then 1 else 0 := by
  unfold roots
  rw [List.range_succ, List.filter_append, List.length_append]
  by_cases h : rd l (j : Int) = (j : Int) <;> simp [h]
theorem roots_le (l : List Int) (j : Nat) : roots l j ≤ j := by
  unfold roots
  have := List.length_filter_le (fun i : Nat => decide (rd l (i : Int) = (i : Int))) (List.range j)
  rwa [List.length_range] at this
/-- A dominator tree's list. -/
structure Tree (l : List Int) : Prop where
  rng : ∀ x, idx l x → inR l x
  up : ∀ x, idx l x → rd l x ≠ -1 → ∃ k, Up l x k
  one : roots l l.length = 1
/-- The depths of all indices. -/
structure Dep (l d : List Int) : Prop where
  len : d.length = l.length
  out : ∀ x, idx l x → rd l x = -1 → rd d x = -1
  at_ : ∀ x, idx l x → rd l x ≠ -1 → ∃ k : Nat, rd d x = k ∧ Up l x k
/-- Depths under way: the first j are done, none is being visited. -/
structure D2 (l d : List Int) (j : Nat) : Prop where
  dp : Dp l d
  no : ∀ y, idx l y → rd d y ≠ -3
  done : ∀ i : Nat, i < j → rd l (i : Int) ≠ -1 → ∃ k : Nat, rd d (i : Int) = k ∧ Up l (i : Int) k
theorem D2.start (l : List Int) : D2 l (List.replicate l.length (-2)) 0 := by
  have h : ∀ y, idx l y → rd (List.replicate l.length (-2)) y = -2 := fun y hy => by
    have e : y = (y.toNat : Int) := (Int.toNat_of_nonneg hy.1).symm
    have := hy.2
    rw [e, rd_get _ y.toNat (by rw [List.length_replicate]; omega), List.getElem_replicate]
  exact ⟨⟨by rw [List.length_replicate], fun x hx => .inl (h x hx)⟩, fun y hy => by rw [h y hy]; omega, fun i hi => by omega⟩
theorem D2.skip {l d : List Int} {j : Nat} (h : D2 l d j) (hj : rd l (j : Int) = -1) : D2 l d (j + 1) := by
  refine ⟨h.dp, h.no, fun i hi hne => ?_⟩
  by_cases e : i = j
  · subst e; exact absurd hj hne
  · exact h.done i (by omega) hne
theorem D2.yes {l d d' : List Int} {j : Nat} (h : D2 l d j) (hj : j < l.length) (hv : Vis l d (j : Int) true d') : D2 l d' (j + 1) := by
  obtain ⟨h1, h2, h3, h4⟩ := hv.yes rfl
  refine ⟨h1, fun y hy e => h.no y hy ((h3 y hy).1 e), fun i hi hne => ?_⟩
  by_cases e : i = j
  · subst e; exact h2
  · have hi2 : i < j := by omega
    have hix : idx l (i : Int) := ⟨by omega, by omega⟩
    rcases h1.at_ (i : Int) hix with h5 | h5 | h5
    · obtain ⟨k, h6, _⟩ := h.done i hi2 hne; have := h4 _ hix h5; omega
    · exact absurd ((h3 _ hix).1 h5) (h.no _ hix)
    · exact h5
theorem D2.no_ {l d d' : List Int} {j : Nat} (h : D2 l d j) (hj : j < l.length) (hne : rd l (j : Int) ≠ -1) (hv : Vis l d (j : Int) false d') : ¬ Tree l := by
  intro ht
  have hix : idx l (j : Int) := ⟨by omega, by omega⟩
  obtain ⟨k, hk⟩ := ht.up _ hix hne
  rcases hv.no rfl with h1 | ⟨y, hy, h1, _⟩
  · exact h1 k hk
  · exact h.no y hy h1
/-- Depths under way, last loop. -/
structure D3 (l d : List Int) (j : Nat) : Prop where
  len : d.length = l.length
  out : ∀ i : Nat, i < j → rd l (i : Int) = -1 → rd d (i : Int) = -1
  at_ : ∀ x, idx l x → rd l x ≠ -1 → ∃ k : Nat, rd d x = k ∧ Up l x k
theorem D2.next {l d : List Int} (h : D2 l d l.length) : D3 l d 0 := by
  refine ⟨h.dp.len, fun i hi => by omega, fun x hx hne => ?_⟩
  have e : x = (x.toNat : Int) := (Int.toNat_of_nonneg hx.1).symm
  have := hx.2
  rw [e] at hne ⊢
  exact h.done x.toNat (by omega) hne
theorem D3.skip {l d : List Int} {j : Nat} (h : D3 l d j) (hj : rd l (j : Int) ≠ -1) : D3 l d (j + 1) := by
  refine ⟨h.len, fun i hi e => ?_, h.at_⟩
  by_cases e1 : i = j
  · subst e1; exact absurd e hj
  · exact h.out i (by omega) e
theorem D3.set {l d : List Int} {j : Nat} (h : D3 l d j) (hl : j < l.length) (hj : rd l (j : Int) = -1) : D3 l (d.set ((j : Int)).toNat (-1)) (j + 1) := by
  have hxd : idx d (j : Int) := ⟨by omega, by have := h.len; omega⟩
  refine ⟨by rw [List.length_set]; exact h.len, fun i hi e => ?_, fun x hx hne => ?_⟩
  · rw [rd_set d (j : Int) (-1) (i : Int) hxd (by omega)]
    split
    · rfl
    · rename_i e1; exact h.out i (by omega) e
  · rw [rd_set d (j : Int) (-1) x hxd hx.1]
    split
    · rename_i e1; rw [e1] at hne; exact absurd hj hne
    · exact h.at_ x hx hne
theorem D3.last {l d : List Int} (h : D3 l d l.length) : Dep l d := by
  refine ⟨h.len, fun x hx e => ?_, h.at_⟩
  have e1 : x = (x.toNat : Int) := (Int.toNat_of_nonneg hx.1).symm
  have := hx.2
  rw [e1] at e ⊢
  exact h.out x.toNat (by omega) e

/-- What depths answers. -/
def DPost (l : List Int) (w : World) (e : Ending) (w' : World) : Prop := ∃ v b, e = .returned (.tuple #[v, .bool b]) ∧ (b = true → Tree l ∧ ∃ d, Kd.R (Kd.int .i64) 3 w' 0 (fun k => w.heap.size ≤ k) v d ∧ Dep l d) ∧ (b = false → ¬ Tree l) ∧ Below w.heap.size w w'
theorem DPost.no {l : List Int} {w w' : World} (v : Value) (h : ¬ Tree l ∧ Below w.heap.size w w') : DPost l w (.returned (.tuple #[v, .bool false])) w' := ⟨v, false, rfl, fun h => (by cases h), fun _ => h.1, h.2⟩
theorem DPost.yes {l d : List Int} {w w' : World} (v : Value) (h : Tree l ∧ Kd.R (Kd.int .i64) 3 w' 0 (fun k => w.heap.size ≤ k) v d ∧ Dep l d ∧ Below w.heap.size w w') : DPost l w (.returned (.tuple #[v, .bool true])) w' := ⟨v, true, rfl, fun _ => ⟨h.1, d, h.2.1, h.2.2.1⟩, fun h => (by cases h), h.2.2.2⟩
set_option maxRecDepth 100000 in
set_option maxHeartbeats 2000000 in
theorem depths_any (A : Option Addr) (c : Nat) (l : List Int) (w : World) (hC : Kd.C (Kd.int .i64) w A l.length l) (hc : l.length ≤ c) (hl : l.length ≤ 70) :
    Calls Try.prog 39 #[.slice A l.length c] w (DPost l w) := by
  have hX := Aside0.mk (And.intro hC (And.intro hc hl))
  obtain ⟨n, hn⟩ : ∃ n, l.length = n := ⟨_, rfl⟩
  have hn' := Aside0.mk hn
  have hn70 : n ≤ 70 := by omega
  rw [hn]
  clear hC hc hl hn
  go_enter Try.func39, Try.ntmps39
  go_wp2_with fail
  obtain ⟨bl, hbl⟩ : ∃ bl, bl = w.heap.size := ⟨_, rfl⟩
  obtain ⟨w1, hw1⟩ : ∃ w1, w1 = w.alloc (.cells #[.slice A n c] 28 (0, 0)) := ⟨_, rfl⟩
  have hl1 : Aside0 (w1.heap[bl]? = some (.cells #[.slice A n c] 28 (0, 0)) ∧ Below w.heap.size w w1 ∧ w1.heap.size = w.heap.size + 1 ∧ bl = w.heap.size) := ⟨by rw [hw1, hbl]; exact ⟨heap_alloc_new w _, below_alloc (Below.refl _ _) _, by simp, rfl⟩⟩
  rw [show Value.pointer (some (⟨w.heap.size, 0, none⟩ : Addr)) = Value.pointer (some ⟨bl, 0, none⟩) by rw [hbl], ← hw1]
  clear hbl hw1
  refine (fill_any n (-2) _ (by omega)).mono ?_
  rintro e' w2 ⟨v, rfl, RR, B2⟩
  obtain ⟨Ad, cd, ev, hx, Cx⟩ := Kd.R_reads RR
  rw [List.length_replicate] at ev
  subst ev
  have R2 := Aside0.mk (And.intro RR B2)
  clear RR B2 hx Cx
  have hsz : (w2.alloc (.cells #[.slice Ad n cd] 28 (0, 0))).heap.size = w2.heap.size + 1 := by simp
  have hnw := heap_alloc_new (w2.alloc (.cells #[.slice Ad n cd] 28 (0, 0))) (.cells #[.nilFunc] 62 (0, 0))
  rw [hsz] at hnw
  have q1 : ((w2.alloc (.cells #[.slice Ad n cd] 28 (0, 0))).alloc (.cells #[.nilFunc] 62 (0, 0))).cell? ⟨w2.heap.size + 1, 0, none⟩ = some .nilFunc := cell_at hnw rfl
  have q2 : ((w2.alloc (.cells #[.slice Ad n cd] 28 (0, 0))).alloc (.cells #[.nilFunc] 62 (0, 0))).frozen? ⟨w2.heap.size + 1, 0, none⟩ = false := free_at hnw 0
  have hnw := Aside0.mk hnw
  clear hsz
  go_upto_region 5 with (fail)
  clear q1 q2 hnw
  obtain ⟨bd, hbd⟩ : ∃ bd, bd = w2.heap.size := ⟨_, rfl⟩
  obtain ⟨bv, hbv⟩ : ∃ bv, bv = w2.heap.size + 1 := ⟨_, rfl⟩
  obtain ⟨w3, hw3⟩ : ∃ w3, w3 = (w2.alloc (.cells #[.slice Ad n cd] 28 (0, 0))).alloc (.cells #[.func (.func 48) #[] #[.pointer (some ⟨bd, 0, none⟩), .pointer (some ⟨bl, 0, none⟩), .pointer (some ⟨bv, 0, none⟩)]] 62 (0, 0)) := ⟨_, rfl⟩
  rw [← hbv, ← hbd, ← hw3]
  have hI0 : Aside0 (Dw w w3 n A c bd bl bv Ad cd w1.heap.size w2.heap.size l (List.replicate n (-2))) := ⟨by
    have b12 := R2.out.2
    have b23 : Below w2.heap.size w2 w3 := by rw [hw3]; exact below_alloc (below_alloc (Below.refl _ _) _) _
    have b02 := hl1.out.2.1.trans (b12.mono hl1.out.2.1.size)
    have s1 := hl1.out.2.1.size
    have s2 := b12.size
    have s3 := hl1.out.2.2.1
    have s4 := hl1.out.2.2.2
    refine ⟨b02.trans (b23.mono b02.size), by have := hX.out.1; rwa [hn'.out] at this, ?_, ?_, ?_, ?_, by omega, by omega, by omega, by omega, hn'.out⟩
    · rw [hw3, hbd]
      exact ((below_alloc (Below.refl _ (w2.alloc _)) _).block _ (by simp)).trans (heap_alloc_new w2 _)
    · exact (b23.block _ (by have := blk_lt' hl1.out.1; omega)).trans ((b12.block _ (blk_lt' hl1.out.1)).trans hl1.out.1)
    · rw [hw3, hbv]
      have h9 := heap_alloc_new (w2.alloc (.cells #[.slice Ad n cd] 28 (0, 0))) (.cells #[.func (.func 48) #[] #[.pointer (some ⟨bd, 0, none⟩), .pointer (some ⟨bl, 0, none⟩), .pointer (some ⟨w2.heap.size + 1, 0, none⟩)]] 62 (0, 0))
      rw [show (w2.alloc (.cells #[.slice Ad n cd] 28 (0, 0))).heap.size = w2.heap.size + 1 by simp] at h9
      exact h9
    · have hR := Kd.R_mono (Kd.R_bound R2.out.1) (ok' := fun k => w1.heap.size ≤ k ∧ k < w2.heap.size) (fun k hk => ⟨hk.1, hk.2.2.1⟩)
      exact Kd.R_step hR (fun k hk hlt => b23.block k hlt)⟩
  clear hbd hbv hw3 R2 hl1
  obtain ⟨lo, hlo⟩ : ∃ lo, lo = w1.heap.size := ⟨_, rfl⟩
  obtain ⟨hi, hhi⟩ : ∃ hi, hi = w2.heap.size := ⟨_, rfl⟩
  rw [← hlo, ← hhi] at hI0
  clear hlo hhi
  have g1 := hI0.out.cl_
  go_wp2_with fail
  clear g1
  go_loopg [5, 19] n (fun q vr v wi => ∃ j : Nat, j + q = n ∧ v = .int .i64 (j : Int) ∧ vr = .int .i64 (roots l j : Int) ∧ Aside0 (Dw w wi n A c bd bl bv Ad cd lo hi l (List.replicate n (-2)) ∧ ∀ i : Nat, i < j → inR l (i : Int)))
  case atStart => exact ⟨0, by omega, rfl, rfl, hI0.out, fun i hi => by omega⟩
  case round =>
    obtain ⟨j, hj, rfl, rfl, hJ⟩ := hrel
    clear hI0
    by_cases hlt : j < n
    · have hlti : (j : Int) < n := by omega
      obtain ⟨gk1, rfl⟩ : ∃ q, gk = q + 1 := ⟨gk - 1, by omega⟩
      have hj1 : j + 1 + gk1 = n := by omega
      have hgk1 : gk1 < gk1 + 1 := by omega
      obtain ⟨la, eA, g4⟩ := hJ.out.1.l_ (x := (j : Int)) (by omega) hlti
      subst eA
      rw [Int.toNat_natCast] at g4
      have g1 := hJ.out.1.cl_
      have hrs := roots_succ l j
      have hrl := roots_le l j
      have hjx : Aside0 (idx l (j : Int)) := ⟨⟨by omega, by rw [hn'.out]; exact hlti⟩⟩
      by_cases hlow : rd l (j : Int) < -1
      · have hNo : Aside0 (¬ Tree l ∧ Below w.heap.size w wr) := ⟨fun ht => by have := (ht.rng _ hjx.out).1; omega, hJ.out.1.b⟩
        obtain ⟨p, hp⟩ : ∃ p, rd l (j : Int) = p := ⟨_, rfl⟩
        rw [hp] at g4 hlow
        clear hJ hrs hrl hp
        go_wp2_with fail
        go_ret2
        exact DPost.no _ hNo.out
      · by_cases hhigh : (n : Int) ≤ rd l (j : Int)
        · have hNo : Aside0 (¬ Tree l ∧ Below w.heap.size w wr) := ⟨fun ht => by have := (ht.rng _ hjx.out).2; rw [hn'.out] at this; omega, hJ.out.1.b⟩
          obtain ⟨p, hp⟩ : ∃ p, rd l (j : Int) = p := ⟨_, rfl⟩
          rw [hp] at g4 hlow hhigh
          clear hJ hrs hrl hp
          go_wp2_with fail
          go_ret2
          exact DPost.no _ hNo.out
        · have hJ2 : Aside0 (Dw w wr n (some la) c bd bl bv Ad cd lo hi l (List.replicate n (-2)) ∧ ∀ i : Nat, i < j + 1 → inR l (i : Int)) := ⟨hJ.out.1, fun i hi => by
            by_cases e : i = j
            · subst e; exact ⟨by omega, by rw [hn'.out]; omega⟩
            · exact hJ.out.2 i (by omega)⟩
          by_cases hroot : rd l (j : Int) = (j : Int)
          · rw [if_pos hroot] at hrs
            rw [hroot] at g4 hlow hhigh
            obtain ⟨rr, hrr⟩ : ∃ rr, roots l j = rr := ⟨_, rfl⟩
            rw [hrr] at hrs hrl ⊢
            have hrs := Aside0.mk hrs
            clear hJ hroot hrr
            go_wp2_with fail
            go_roundg gk1
            case rel => exact ⟨j + 1, hj1, by go_num, by rw [hrs.out]; go_num, hJ2⟩
            case measure => exact hgk1
          · rw [if_neg hroot] at hrs
            obtain ⟨p, hp⟩ : ∃ p, rd l (j : Int) = p := ⟨_, rfl⟩
            rw [hp] at g4 hlow hhigh hroot
            have e1 : (p == (j : Int)) = false := by simpa using hroot
            obtain ⟨rr, hrr⟩ : ∃ rr, roots l j = rr := ⟨_, rfl⟩
            rw [hrr] at hrs hrl ⊢
            have hrs := Aside0.mk hrs
            clear hJ hroot hrr hp
            go_wp2_with fail
            go_roundg gk1
            case rel => exact ⟨j + 1, hj1, by go_num, by rw [hrs.out]; rfl, hJ2⟩
            case measure => exact hgk1
    · have hjn : j = n := by omega
      subst hjn
      have hI1 : Aside0 (Dw w wr j A c bd bl bv Ad cd lo hi l (List.replicate j (-2)) ∧ ∀ x, idx l x → inR l x) := ⟨hJ.out.1, fun x hx => by
        have e : x = (x.toNat : Int) := (Int.toNat_of_nonneg hx.1).symm
        have := hx.2
        rw [e]
        exact hJ.out.2 x.toNat (by rw [hn'.out] at this; omega)⟩
      have g1 := hI1.out.1.cl_
      clear hJ
      obtain ⟨rr, hrr⟩ : ∃ rr, roots l j = rr := ⟨_, rfl⟩
      have hrl := roots_le l j
      rw [hrr] at hrl ⊢
      have hrr := Aside0.mk hrr
      go_wp2_with fail
      clear g1 hlt hrl
      have hI2 : Aside0 (Dw w wr j A c bd bl bv Ad cd lo hi l (List.replicate j (-2)) ∧ D2 l (List.replicate j (-2)) 0) := ⟨hI1.out.1, by have := D2.start l; rw [hn'.out] at this; exact this⟩
      have hrng := Aside0.mk hI1.out.2
      clear hI1
      obtain ⟨n, hnn⟩ : ∃ n, j = n := ⟨_, rfl⟩
      subst hnn
      go_loopg [40] j (fun q v wi => ∃ (i : Nat) (d : List Int), i + q = j ∧ v = .int .i64 (i : Int) ∧ Aside0 (Dw w wi j A c bd bl bv Ad cd lo hi l d ∧ D2 l d i))
      case atStart => exact ⟨0, _, by omega, rfl, hI2⟩
      case round =>
        obtain ⟨i, d, hi2, rfl, hJ⟩ := hrel
        clear hI2
        by_cases hlt : i < j
        · have hlti : (i : Int) < j := by omega
          obtain ⟨gk1, rfl⟩ : ∃ q, gk = q + 1 := ⟨gk - 1, by omega⟩
          have hj1 : i + 1 + gk1 = j := by omega
          have hgk1 : gk1 < gk1 + 1 := by omega
          obtain ⟨la, eA, g4⟩ := hJ.out.1.l_ (x := (i : Int)) (by omega) hlti
          subst eA
          rw [Int.toNat_natCast] at g4
          have hix : Aside0 (idx l (i : Int) ∧ i < l.length) := ⟨⟨by omega, by rw [hn'.out]; exact hlti⟩, by rw [hn'.out]; exact hlt⟩
          by_cases hm1 : rd l (i : Int) = -1
          · have hJ2 := Aside0.mk (And.intro hJ.out.1 (hJ.out.2.skip hm1))
            rw [hm1] at g4
            clear hJ hm1
            go_wp2_with fail
            go_roundg gk1
            case rel => exact ⟨i + 1, d, hj1, by go_num, hJ2⟩
            case measure => exact hgk1
          · obtain ⟨g, eg⟩ := hJ.out.1.row (by omega)
            subst eg
            have hcall := Aside0.mk (visit_any w j (some la) c bd bl bv g cd lo hi l (fun x hx => by have := hrng.out x hx; unfold inR at this; rw [hn'.out] at this; exact this) hn70 (cnt2 d) d wr (i : Int) (Nat.le_refl _) hJ.out.1 hJ.out.2.dp hix.out.1)
            have hne := Aside0.mk hm1
            obtain ⟨p, hp⟩ : ∃ p, rd l (i : Int) = p := ⟨_, rfl⟩
            rw [hp] at g4 hm1
            have e1 : (p == -1) = false := by simpa using hm1
            have g3 := hJ.out.1.cv_
            clear hp hm1
            go_wp2_with fail
            refine hcall.out.mono ?_
            rintro e' w9 ⟨b, d9, rfl, hv, hD9⟩
            clear g3 g4 hcall
            cases b
            · have hNo : Aside0 (¬ Tree l ∧ Below w.heap.size w w9) := ⟨hJ.out.2.no_ hix.out.2 hne.out hv, hD9.b⟩
              clear hv hD9 hJ
              go_wp2
              go_ret2
              exact DPost.no _ hNo.out
            · have hI3 : Aside0 (Dw w w9 j (some la) c bd bl bv (some ⟨g, 0, none⟩) cd lo hi l d9 ∧ D2 l d9 (i + 1)) := ⟨hD9, hJ.out.2.yes hix.out.2 hv⟩
              clear hv hD9 hJ
              go_wp2_with fail
              go_roundg gk1
              case rel => exact ⟨i + 1, d9, hj1, by go_num, hI3⟩
              case measure => exact hgk1
        · have hij : i = j := by omega
          subst hij
          have hI3 : Aside0 (Dw w wr i A c bd bl bv Ad cd lo hi l d ∧ D3 l d 0 ∧ ∀ x, idx l x → rd l x ≠ -1 → ∃ k, Up l x k) := ⟨hJ.out.1, by have := hJ.out.2; rw [← hn'.out] at this; exact this.next, fun x hx hne => by
            have := hJ.out.2
            rw [← hn'.out] at this
            obtain ⟨k, _, hu⟩ := this.next.at_ x hx hne
            exact ⟨k, hu⟩⟩
          have hup := Aside0.mk hI3.out.2.2
          have g1 := hI3.out.1.cl_
          clear hJ
          go_wp2_with fail
          clear g1 hlt
          go_loopg [54] i (fun q v wi => ∃ (m : Nat) (d : List Int), m + q = i ∧ v = .int .i64 (m : Int) ∧ Aside0 (Dw w wi i A c bd bl bv Ad cd lo hi l d ∧ D3 l d m))
          case atStart => exact ⟨0, _, by omega, rfl, ⟨hI3.out.1, hI3.out.2.1⟩⟩
          case round =>
            obtain ⟨m, d, hm2, rfl, hJ⟩ := hrel
            clear hI3
            by_cases hlt : m < i
            · have hlti : (m : Int) < i := by omega
              obtain ⟨gk1, rfl⟩ : ∃ q, gk = q + 1 := ⟨gk - 1, by omega⟩
              have hj1 : m + 1 + gk1 = i := by omega
              have hgk1 : gk1 < gk1 + 1 := by omega
              obtain ⟨la, eA, g4⟩ := hJ.out.1.l_ (x := (m : Int)) (by omega) hlti
              subst eA
              rw [Int.toNat_natCast] at g4
              by_cases hm1 : rd l (m : Int) = -1
              · obtain ⟨g, eg⟩ := hJ.out.1.row (by omega)
                subst eg
                have g3 := hJ.out.1.cd_
                obtain ⟨g5, g6⟩ := hJ.out.1.d_ (x := (m : Int)) (by omega) hlti
                have hput := hJ.out.1.put (m : Int) (-1)
                have hset := hJ.out.2.set (by rw [hn'.out]; exact hlt) hm1
                rw [Int.toNat_natCast] at g5 g6 hput hset
                have hI4 := Aside0.mk (And.intro hput hset)
                rw [hm1] at g4
                clear hJ hm1 hput hset
                go_wp2_with fail
                go_roundg gk1
                case rel => exact ⟨m + 1, _, hj1, by go_num, hI4⟩
                case measure => exact hgk1
              · have hI4 := Aside0.mk (And.intro hJ.out.1 (hJ.out.2.skip hm1))
                obtain ⟨p, hp⟩ : ∃ p, rd l (m : Int) = p := ⟨_, rfl⟩
                rw [hp] at g4 hm1
                have e1 : (p == -1) = false := by simpa using hm1
                clear hJ hm1 hp
                go_wp2_with fail
                go_roundg gk1
                case rel => exact ⟨m + 1, d, hj1, by go_num, hI4⟩
                case measure => exact hgk1
            · have hmi : m = i := by omega
              subst hmi
              have hN : Aside0 (Kd.R (Kd.int .i64) 3 wr 0 (fun k => w.heap.size ≤ k) (.slice Ad m cd) d ∧ Dep l d ∧ Below w.heap.size w wr) := ⟨Kd.R_mono hJ.out.1.D (fun k hk => by have := hJ.out.1.o1; omega), by have := hJ.out.2; rw [← hn'.out] at this; exact this.last, hJ.out.1.b⟩
              have g3 := hJ.out.1.cd_
              clear hJ
              by_cases hone : rr = 1
              · have hT : Aside0 (Tree l) := ⟨⟨hrng.out, hup.out, by rw [hn'.out, hrr.out, hone]⟩⟩
                subst hone
                go_wp2
                go_ret2
                exact DPost.yes _ ⟨hT.out, hN.out⟩
              · have hT : Aside0 (¬ Tree l ∧ Below w.heap.size w wr) := ⟨fun ht => by have := ht.one; rw [hn'.out, hrr.out] at this; exact hone this, hN.out.2.2⟩
                have e1 : ((rr : Int) == 1) = false := beq_eq_false_iff_ne.2 (by omega)
                have e2 : (rr == 1) = false := beq_eq_false_iff_ne.2 hone
                clear hone
                go_wp2
                go_ret2
                exact DPost.no _ hT.out
end Go.Proofs.Ytbphjbfnnhfhlaa
end

section
/- A loop over an iterator that keeps a state of its own in a cell (a captured variable): the round and the loop's two forms. -/
set_option linter.unusedVariables false
namespace Go.Proofs.Ytbphjbfnnhfhlaa.RangeC
open Go.RowKit

/-- The blocks below n lie as they lay. -/
def Sm (n : Nat) (W W' : World) : Prop := ∀ k, k < n → W'.heap[k]? = W.heap[k]?
theorem Sm.refl (n : Nat) (W : World) : Sm n W W := fun _ _ => rfl
theorem Sm.trans {n : Nat} {A B C : World} (h : Sm n A B) (k : Sm n B C) : Sm n A C := fun j hj => (k j hj).trans (h j hj)
theorem Sm.put {n : Nat} (W : World) {l : Nat} (o : Obj) (h : n ≤ l) : Sm n W (W.putObj l o) := fun k hk => World.putObj_heap_other (by omega)
/-- A loop's record. -/
def rcd (fn : FuncId) (tmps : Array Value) (ps : Array Tmp) (assign body : Code) (dd : Nat) (st : LoopState) (pe : Option Code) : Loop :=
  { state := st, pending := pe, fn := fn, tmps := tmps, params := ps, assign := assign, body := body, defers := dd }
/-- How a round's body may end: it goes on, or it returns. -/
def Ends {α : Type} (base n₀ : Nat) (I Ix : List α → World → Prop) (gb : Bool) (xs : List α) (W : World) : Exit → Act → World → Prop
  | .normal, _, W3 => gb = true ∧ KeepsFrom base W W3 ∧ Sm n₀ W W3 ∧ I xs W3
  | .ret, _, W3 => gb = false ∧ KeepsFrom base W W3 ∧ Ix xs W3
  | _, _, _ => False

section
variable {F : Fence} {m : Nat} {P : Program} {α : Type} {base n₀ L dd : Nat} {fn : FuncId} {tmps : Array Value} {ps : Array Tmp} {assign body : Code} {encs : α → Array Value} {I Ix : List α → World → Prop} {Ax : List α → α → Act → World → Prop} {B : World → Prop}
/-- What the iterator meets when it calls for a round. -/
theorem round_c (hps : ∀ x, (encs x).size = ps.size) (hfn : F.fn fn) (hbL : base ≤ L) (hn : n₀ ≤ L) (hI : OwnFrom base I) (hIx : OwnFrom base Ix) (hAx : ∀ pre x a', OwnFrom base (fun (_ : Unit) W => Ax pre x a' W))
    (hB : ∀ X Y, KeepsFrom base X Y → B X → B Y) (hBL : ∀ X o, B X → B (X.putObj L o)) (pre : List α) (x : α) (gb : Bool) (W : World)
    (hasg : ∀ K : Act → World → Prop, (∀ a' W', KeepsFrom base W W' → Sm n₀ W W' → Ax pre x a' W' → K a' W') →
      assign.wpIn (F.inRound L) m P (Exit.then K (fun _ _ _ => False)) { tmps := (ps.zip (encs x)).foldl (fun t (p, v) => t.setIfInBounds p v) tmps, defers := [] } W)
    (hbody : ∀ a' W, (∃ r, W.heap[L]? = some (.loop r)) → Ax pre x a' W → body.wpIn (F.inRound L) m P (Ends base n₀ I Ix gb (pre ++ [x]) W) a' W)
    (hl : W.heap[L]? = some (.loop (rcd fn tmps ps assign body dd .ready none))) (hb : B W) :
    YieldAt F m P L (encs x) W fun e W' => e = .returned (.bool gb) ∧ (gb = true → (I (pre ++ [x]) W' ∧ W'.heap[L]? = some (.loop (rcd fn tmps ps assign body dd .ready none)) ∧ B W') ∧ Sm n₀ W W') ∧
      (gb = false → Ix (pre ++ [x]) W' ∧ W'.heap[L]? = some (.loop (rcd fn tmps ps assign body dd .done (some .ret))) ∧ B W') := by
  have hy := run_yield (P := P) (args := encs x) hl (hps x)
  refine ⟨fn, _, assign, body, hy, roundIn_of_wpIn hfn (hasg _ fun a' Wa hka hsa hax => ?_)⟩
  have hla := hka.same L _ hbL hl rfl
  have hba := hB _ _ hka hb
  refine ⟨_, run_beginRound hla rfl, ?_⟩
  obtain ⟨rb, hrb⟩ : ∃ rb : Loop, rb = { rcd fn tmps ps assign body dd .ready none with state := .busy } := ⟨_, rfl⟩
  rw [← hrb]
  have hlt : L < Wa.heap.size := (Array.getElem?_eq_some_iff.1 hla).1
  have hl2 : (Wa.putObj L (.loop rb)).heap[L]? = some (.loop rb) := World.putObj_heap_same hlt
  refine wpIn_mono (hbody a' _ ⟨_, hl2⟩ ((hAx pre x a').putObj (s := ()) _ hax hbL hla rfl)) fun e a3 W3 hp => ?_
  have hfin : ∀ jump, KeepsFrom base (Wa.putObj L (.loop rb)) W3 → (Instr.endRound L jump).run P W3 = .ok (.bool jump.isNone) (W3.putObj L (.loop (rcd fn tmps ps assign body dd (if jump.isNone then .ready else .done) jump))) ∧
      W3.heap[L]? = some (.loop rb) ∧ (W3.putObj L (.loop (rcd fn tmps ps assign body dd (if jump.isNone then .ready else .done) jump))).heap[L]? = some (.loop (rcd fn tmps ps assign body dd (if jump.isNone then .ready else .done) jump)) ∧
      B (W3.putObj L (.loop (rcd fn tmps ps assign body dd (if jump.isNone then .ready else .done) jump))) := by
    intro jump hk
    have h3 := hk.same L _ hbL hl2 rfl
    have h4 := run_endRound (P := P) jump h3
    rw [hrb] at h4
    exact ⟨h4, h3, World.putObj_heap_same (Array.getElem?_eq_some_iff.1 h3).1, hBL _ _ (hB _ _ hk (hBL _ _ hba))⟩
  cases e with
  | normal =>
    obtain ⟨rfl, hk, hs, hi⟩ := hp
    obtain ⟨h1, h2, h3, h4⟩ := hfin none hk
    exact ⟨_, _, h1, rfl, fun _ => ⟨⟨hI.putObj _ hi hbL h2 rfl, h3, h4⟩, ((hsa.trans (Sm.put _ _ hn)).trans hs).trans (Sm.put _ _ hn)⟩, fun h => (by cases h)⟩
  | ret =>
    obtain ⟨rfl, hk, hi⟩ := hp
    obtain ⟨h1, h2, h3, h4⟩ := hfin (some .ret) hk
    exact ⟨_, _, h1, rfl, fun h => (by cases h), fun _ => ⟨hIx.putObj _ hi hbL h2 rfl, h3, h4⟩⟩
  | exit id => exact hp.elim
  | goto t => exact hp.elim
  | panic ch => exact hp.elim
  | outgrown => exact hp.elim
end

/-- The contract of an iterator that writes the cell bn: it hands on xs, up to the first element at which the caller stops it. -/
def IterC {α : Type} (F : Fence) (n : Nat) (P : Program) (g : Nat) (lb : Array Value) (encs : α → Array Value) (n₀ bn : Nat) (xs : List α) (w : World) : Prop :=
  ∀ (l : Nat) (go : α → Bool) (J Jx : List α → World → Prop) (W : World), Sm n₀ w W → AbidesFrom W.heap.size J → AbidesFrom W.heap.size Jx → (∀ pre X u, J pre X → J pre (X.setCell ⟨bn, 0, none⟩ u)) →
    (∀ pre x W1, J pre W1 → (∃ rest, xs = pre ++ x :: rest) → YieldAt F (n - 1) P l (encs x) W1 fun e W' =>
      e = .returned (.bool (go x)) ∧ (go x = true → J (pre ++ [x]) W' ∧ Sm n₀ W1 W') ∧ (go x = false → Jx (pre ++ [x]) W')) →
    J [] W →
    CallsIn F n P g (#[.func (.yield l) #[] #[]] ++ lb) W fun e W' => (∃ v, e = .returned v) ∧ (((∀ x ∈ xs, go x = true) ∧ J xs W') ∨ ∃ pre x, (∃ rest, xs = pre ++ x :: rest) ∧ (∀ y ∈ pre, go y = true) ∧ go x = false ∧ Jx (pre ++ [x]) W')

section
variable {F : Fence} {n : Nat} {P : Program} {α : Type} {n₀ bn : Nat} {g : Operand} {ps : Array Tmp} {assign body : Code} {Q : Exit → Act → World → Prop} {a : Act} {w : World} {gf : Nat} {lb : Array Value} {encs : α → Array Value} {xs : List α}
theorem keep_set {base : Nat} {X : World} {k : Nat} {u : Value} {j : Nat} (hj : j ≠ k) : (X.setCell ⟨k, 0, none⟩ u).heap[j]? = X.heap[j]? := Below.heap_setCell X ⟨k, 0, none⟩ u j (fun e => hj e)
/-- The loop, outside of any round. -/
theorem range_c (hro : F.round = none) (h1 : 1 ≤ n) (hg : a.eval g = .func (.func gf) #[] lb) (hFg : F.fn gf) (eg : ∀ args w, (callFunc gf args).run P w = .ok (.enter gf args) w)
    (hseq : IterC F (n - 1) P gf lb encs n₀ bn xs w) (go : α → Bool) (hn0 : n₀ ≤ w.heap.size) (hbn : bn < n₀) (hps : ∀ x, (encs x).size = ps.size)
    (I Ix : List α → World → Prop) (hI : OwnFrom w.heap.size I) (hIx : OwnFrom w.heap.size Ix) (hIb : ∀ pre X u, I pre X → I pre (X.setCell ⟨bn, 0, none⟩ u)) (h0 : I [] w)
    (Ax : List α → α → Act → World → Prop) (hAx : ∀ pre x a', OwnFrom w.heap.size (fun (_ : Unit) W => Ax pre x a' W))
    (hasg : ∀ (l : Nat) (pre : List α) (x : α) (W : World) (K : Act → World → Prop), I pre W → (∃ rest, xs = pre ++ x :: rest) → (∀ a' W', KeepsFrom w.heap.size W W' → Sm n₀ W W' → Ax pre x a' W' → K a' W') →
      assign.wpIn (F.inRound l) (n - 1 - 1) P (Exit.then K (fun _ _ _ => False)) { tmps := (ps.zip (encs x)).foldl (fun t (p, v) => t.setIfInBounds p v) a.tmps, defers := [] } W)
    (hbody : ∀ (l : Nat) (pre : List α) (x : α) (a' : Act) (W : World), w.heap.size ≤ l → (∃ r, W.heap[l]? = some (.loop r)) → (∃ rest, xs = pre ++ x :: rest) → Ax pre x a' W → body.wpIn (F.inRound l) (n - 1 - 1) P (Ends w.heap.size n₀ I Ix (go x) (pre ++ [x]) W) a' W)
    (hdone : ∀ (D : Nat) (W : World), w.heap.size ≤ D → (∀ x ∈ xs, go x = true) → I xs W → W.heap[D]? = some (.deferred (some [])) → Q .normal { a with defers := { target := .collected D, args := #[] } :: a.defers } W)
    (hstop : ∀ (D : Nat) (pre : List α) (x : α) (W : World), w.heap.size ≤ D → (∃ rest, xs = pre ++ x :: rest) → (∀ y ∈ pre, go y = true) → go x = false → Ix (pre ++ [x]) W → W.heap[D]? = some (.deferred (some [])) → Code.ret.wpIn F n P Q { a with defers := { target := .collected D, args := #[] } :: a.defers } W) :
    (Code.rangeFunc g ps assign body).wpIn F n P Q a w := by
  refine wpIn_rangeFunc fun fn hfn => ?_
  rw [hro]
  obtain ⟨rec, hrec⟩ : ∃ rec, rec = rcd fn a.tmps ps assign body w.heap.size := ⟨_, rfl⟩
  obtain ⟨W1, hW1⟩ : ∃ W1, W1 = (w.alloc (.deferred (some []))).alloc (.loop (rec .ready none)) := ⟨_, rfl⟩
  have s1 : W1.heap.size = w.heap.size + 1 + 1 := by rw [hW1]; simp
  have hl1 : W1.heap[w.heap.size + 1]? = some (.loop (rec .ready none)) := by
    have h := World.alloc_heap_new (w.alloc (.deferred (some []))) (.loop (rec .ready none))
    rw [World.size_alloc] at h
    rw [hW1]; exact h
  have hd1 : W1.heap[w.heap.size]? = some (.deferred (some [])) := by rw [hW1]; exact (Below.heap_alloc _ _ _ (by simp)).trans (World.alloc_heap_new w _)
  have hsm : Sm n₀ w W1 := fun k hk => by rw [hW1]; exact (Below.heap_alloc _ _ _ (by simp; omega)).trans (Below.heap_alloc _ _ _ (by omega))
  have hfar : ∀ {A : World} {row : Option Nat}, (∀ r, row = some r → W1.heap.size ≤ r ∧ ∃ o : Obj, A.heap[r]? = some o ∧ o.isWalk = true) → ∀ r, row = some r → w.heap.size ≤ r ∧ ∃ o : Obj, A.heap[r]? = some o ∧ o.isCells = false := fun hr r e => by
    obtain ⟨h2, o, ho, hw⟩ := hr r e
    exact ⟨by omega, o, ho, Obj.not_cells_of_walk hw⟩
  refine ⟨w.heap.size + 1, [{ target := .collected w.heap.size, args := #[] }], W1, { target := .fn (.func gf) lb, args := #[.func (.yield (w.heap.size + 1)) #[] #[]] }, W1, gf, #[.func (.yield (w.heap.size + 1)) #[] #[]] ++ lb, W1, ?_, ?_, ?_, ?_, fun _ => h1, ?_⟩
  · rw [hW1, hrec]; exact run_enterLoop_outer _ _ _ _ _
  · simp only [resolve, hg]
    simp [go_sem]
  · intro f' hf'
    simp [Target.leads] at hf'
    subst hf'
    exact hFg
  · simp [invoke, go_sem, eg]
  have hdl : w.heap.size ≠ bn ∧ w.heap.size + 1 ≠ bn := by omega
  refine (hseq (w.heap.size + 1) go (fun pre W => I pre W ∧ W.heap[w.heap.size + 1]? = some (.loop (rec .ready none)) ∧ W.heap[w.heap.size]? = some (.deferred (some [])))
    (fun pre W => Ix pre W ∧ W.heap[w.heap.size + 1]? = some (.loop (rec .done (some .ret))) ∧ W.heap[w.heap.size]? = some (.deferred (some []))) W1 hsm ?_ ?_ ?_ ?_ ⟨?_, hl1, hd1⟩).mono ?_
  · exact fun s A B row hs hgr hr => ⟨hI s A B row hs.1 hgr (hfar hr), (grownBy_keeps hgr (fun r e => (hr r e).2) hs.2.1 rfl).trans hs.2.1, (grownBy_keeps hgr (fun r e => (hr r e).2) hs.2.2 rfl).trans hs.2.2⟩
  · exact fun s A B row hs hgr hr => ⟨hIx s A B row hs.1 hgr (hfar hr), (grownBy_keeps hgr (fun r e => (hr r e).2) hs.2.1 rfl).trans hs.2.1, (grownBy_keeps hgr (fun r e => (hr r e).2) hs.2.2 rfl).trans hs.2.2⟩
  · exact fun pre X u hs => ⟨hIb pre X u hs.1, (keep_set (base := 0) hdl.2).trans hs.2.1, (keep_set (base := 0) hdl.1).trans hs.2.2⟩
  · rintro pre x W ⟨hi, hl, hk⟩ hx
    rw [hrec] at hl ⊢
    exact round_c (B := fun W => W.heap[w.heap.size]? = some (.deferred (some []))) hps hfn (Nat.le_succ _) (by omega) hI hIx hAx (fun X Y h2 h3 => h2.same _ _ (Nat.le_refl _) h3 rfl) (fun X o h2 => (World.putObj_heap_other (by omega)).trans h2) pre x (go x) W
      (fun K hK => hasg _ pre x W K hi hx hK) (fun a' W hr hax => hbody _ pre x a' W (by omega) hr hx hax) hl hk
  · rw [hW1]; exact hI.alloc _ (hI.alloc _ h0)
  · rintro e W2 ⟨⟨v, rfl⟩, ⟨hall, hi, hl, hk⟩ | ⟨pre, x, hpre, hgo, hx, hi, hl, hk⟩⟩
    · refine ⟨none, _, by have h := run_endLoop (P := P) hl (by rw [hrec]; simp [rcd]); rw [hrec] at h; exact h, ?_⟩
      exact hdone _ _ (Nat.le_refl _) hall (hI.putObj _ hi (by omega) hl rfl) ((World.putObj_heap_other (by omega)).trans hk)
    · refine ⟨some .ret, _, by have h := run_endLoop (P := P) hl (by rw [hrec]; simp [rcd]); rw [hrec] at h; exact h, ?_⟩
      exact hstop _ pre x _ (Nat.le_refl _) hpre hgo hx (hIx.putObj _ hi (by omega) hl rfl) ((World.putObj_heap_other (by omega)).trans hk)
/-- The loop, within a round of the loop l₀. -/
theorem range_in {l₀ : Nat} {r₀ : Loop} (hro : F.round = some l₀) (hl₀ : w.heap[l₀]? = some (.loop r₀)) (h1 : 1 ≤ n) (hg : a.eval g = .func (.func gf) #[] lb) (hFg : F.fn gf) (eg : ∀ args w, (callFunc gf args).run P w = .ok (.enter gf args) w)
    (hseq : IterC F (n - 1) P gf lb encs n₀ bn xs w) (go : α → Bool) (hn0 : n₀ ≤ w.heap.size) (hbn : bn < n₀) (hps : ∀ x, (encs x).size = ps.size)
    (I Ix : List α → World → Prop) (hI : OwnFrom w.heap.size I) (hIx : OwnFrom w.heap.size Ix) (hIb : ∀ pre X u, I pre X → I pre (X.setCell ⟨bn, 0, none⟩ u)) (h0 : I [] w)
    (Ax : List α → α → Act → World → Prop) (hAx : ∀ pre x a', OwnFrom w.heap.size (fun (_ : Unit) W => Ax pre x a' W))
    (hasg : ∀ (l : Nat) (pre : List α) (x : α) (W : World) (K : Act → World → Prop), I pre W → (∃ rest, xs = pre ++ x :: rest) → (∀ a' W', KeepsFrom w.heap.size W W' → Sm n₀ W W' → Ax pre x a' W' → K a' W') →
      assign.wpIn (F.inRound l) (n - 1 - 1) P (Exit.then K (fun _ _ _ => False)) { tmps := (ps.zip (encs x)).foldl (fun t (p, v) => t.setIfInBounds p v) a.tmps, defers := [] } W)
    (hbody : ∀ (l : Nat) (pre : List α) (x : α) (a' : Act) (W : World), w.heap.size ≤ l → (∃ r, W.heap[l]? = some (.loop r)) → (∃ rest, xs = pre ++ x :: rest) → Ax pre x a' W → body.wpIn (F.inRound l) (n - 1 - 1) P (Ends w.heap.size n₀ I Ix (go x) (pre ++ [x]) W) a' W)
    (hdone : ∀ (W : World), (∀ x ∈ xs, go x = true) → I xs W → Q .normal a W)
    (hstop : ∀ (pre : List α) (x : α) (W : World), (∃ rest, xs = pre ++ x :: rest) → (∀ y ∈ pre, go y = true) → go x = false → Ix (pre ++ [x]) W → Code.ret.wpIn F n P Q a W) :
    (Code.rangeFunc g ps assign body).wpIn F n P Q a w := by
  refine wpIn_rangeFunc fun fn hfn => ?_
  rw [hro]
  obtain ⟨rec, hrec⟩ : ∃ rec, rec = rcd fn a.tmps ps assign body r₀.defers := ⟨_, rfl⟩
  obtain ⟨W1, hW1⟩ : ∃ W1, W1 = w.alloc (.loop (rec .ready none)) := ⟨_, rfl⟩
  have s1 : W1.heap.size = w.heap.size + 1 := by rw [hW1]; simp
  have hl1 : W1.heap[w.heap.size]? = some (.loop (rec .ready none)) := by rw [hW1]; exact World.alloc_heap_new w _
  have hsm : Sm n₀ w W1 := fun k hk => by rw [hW1]; exact Below.heap_alloc _ _ _ (by omega)
  have hfar : ∀ {A : World} {row : Option Nat}, (∀ r, row = some r → W1.heap.size ≤ r ∧ ∃ o : Obj, A.heap[r]? = some o ∧ o.isWalk = true) → ∀ r, row = some r → w.heap.size ≤ r ∧ ∃ o : Obj, A.heap[r]? = some o ∧ o.isCells = false := fun hr r e => by
    obtain ⟨h2, o, ho, hw⟩ := hr r e
    exact ⟨by omega, o, ho, Obj.not_cells_of_walk hw⟩
  refine ⟨w.heap.size, [], W1, { target := .fn (.func gf) lb, args := #[.func (.yield w.heap.size) #[] #[]] }, W1, gf, #[.func (.yield w.heap.size) #[] #[]] ++ lb, W1, ?_, ?_, ?_, ?_, fun _ => h1, ?_⟩
  · rw [hW1, hrec]; exact run_enterLoop_inner hl₀ _ _ _ _ _
  · simp only [resolve, hg]
    simp [go_sem]
  · intro f' hf'
    simp [Target.leads] at hf'
    subst hf'
    exact hFg
  · simp [invoke, go_sem, eg]
  have hdl : w.heap.size ≠ bn := by omega
  refine (hseq w.heap.size go (fun pre W => I pre W ∧ W.heap[w.heap.size]? = some (.loop (rec .ready none)) ∧ True)
    (fun pre W => Ix pre W ∧ W.heap[w.heap.size]? = some (.loop (rec .done (some .ret))) ∧ True) W1 hsm ?_ ?_ ?_ ?_ ⟨?_, hl1, trivial⟩).mono ?_
  · exact fun s A B row hs hgr hr => ⟨hI s A B row hs.1 hgr (hfar hr), (grownBy_keeps hgr (fun r e => (hr r e).2) hs.2.1 rfl).trans hs.2.1, trivial⟩
  · exact fun s A B row hs hgr hr => ⟨hIx s A B row hs.1 hgr (hfar hr), (grownBy_keeps hgr (fun r e => (hr r e).2) hs.2.1 rfl).trans hs.2.1, trivial⟩
  · exact fun pre X u hs => ⟨hIb pre X u hs.1, (keep_set (base := 0) hdl).trans hs.2.1, trivial⟩
  · rintro pre x W ⟨hi, hl, _⟩ hx
    rw [hrec] at hl ⊢
    exact round_c (B := fun _ => True) hps hfn (Nat.le_refl _) hn0 hI hIx hAx (fun _ _ _ h => h) (fun _ _ h => h) pre x (go x) W
      (fun K hK => hasg _ pre x W K hi hx hK) (fun a' W hr hax => hbody _ pre x a' W (Nat.le_refl _) hr hx hax) hl trivial
  · rw [hW1]; exact hI.alloc _ h0
  · rintro e W2 ⟨⟨v, rfl⟩, ⟨hall, hi, hl, hk⟩ | ⟨pre, x, hpre, hgo, hx, hi, hl, hk⟩⟩
    · refine ⟨none, _, by have h := run_endLoop (P := P) hl (by rw [hrec]; simp [rcd]); rw [hrec] at h; exact h, ?_⟩
      exact hdone _ hall (hI.putObj _ hi (Nat.le_refl _) hl rfl)
    · refine ⟨some .ret, _, by have h := run_endLoop (P := P) hl (by rw [hrec]; simp [rcd]); rw [hrec] at h; exact h, ?_⟩
      exact hstop pre x _ hpre hgo hx (hIx.putObj _ hi (Nat.le_refl _) hl rfl)
end
end Go.Proofs.Ytbphjbfnnhfhlaa.RangeC
end

section
/- The iterator of domtree.up: its contract. -/
set_option linter.unusedVariables false
set_option linter.unusedSimpArgs false
set_option linter.unusedSectionVars false
namespace Go.Proofs.Ytbphjbfnnhfhlaa
open Go.RowKit Go.Proofs.YtbphjbfnnhfhlaaW.PrintWords Go.Proofs.Ytbphjbfnnhfhlaa.PDigraphTells Mem
attribute [local go_sem] Oper.semAt_some

/-- The way up from x, k steps. -/
def ups (l : List Int) : Nat → Int → List Int
  | 0, x => [x]
  | k + 1, x => x :: ups l k (rd l x)
/-- The j-th on the way up. -/
def upAt (l : List Int) : Nat → Int → Int
  | 0, x => x
  | j + 1, x => upAt l j (rd l x)
theorem ups_len (l : List Int) : ∀ k x, (ups l k x).length = k + 1
  | 0, _ => rfl
  | k + 1, x => by rw [ups, List.length_cons, ups_len]
theorem ups_get (l : List Int) : ∀ (k j : Nat) (x : Int), j ≤ k → (ups l k x)[j]? = some (upAt l j x)
  | 0, j, x, h => by
    obtain rfl : j = 0 := by omega
    rfl
  | k + 1, 0, x, _ => rfl
  | k + 1, j + 1, x, h => by
    rw [ups, List.getElem?_cons_succ, ups_get l k j _ (by omega)]
    rfl
theorem upAt_succ (l : List Int) : ∀ (j : Nat) (x : Int), upAt l (j + 1) x = rd l (upAt l j x)
  | 0, _ => rfl
  | j + 1, x => by rw [upAt, upAt_succ l j]; rfl
theorem up_at {l : List Int} : ∀ (k j : Nat) (x : Int), Up l x k → j ≤ k → Up l (upAt l j x) (k - j)
  | k, 0, x, h, _ => h
  | 0, j + 1, x, h, hj => by omega
  | k + 1, j + 1, x, h, hj => by
    cases h with
    | step _ _ u =>
      have := up_at k j _ u (by omega)
      rw [show k + 1 - (j + 1) = k - j by omega]
      exact this
theorem up_root {l : List Int} {x : Int} {k : Nat} (h : Up l x k) : (rd l x = x ↔ k = 0) := by
  cases h with
  | root _ e => exact ⟨fun _ => rfl, fun _ => e⟩
  | step _ e _ => exact ⟨fun h => absurd h e, fun h => by omega⟩
theorem cell_blk {w W : World} {a : Addr} (h : W.heap[a.block]? = w.heap[a.block]?) : W.cell? a = w.cell? a := by simp [World.cell?, h]
theorem add_blk (a : Addr) (k : Nat) : (a.add k).block = a.block := by unfold Addr.add; split <;> rfl
/-- What the iterator reads: the list l and the box of its start. -/
structure Ib (w : World) (n₀ bn bi N : Nat) (A : Option Addr) (c : Nat) (l : List Int) (b : Int) : Prop where
  hn : w.heap[bn]? = some (.cells #[.int .i64 b] 3 (0, 0))
  hi : w.heap[bi]? = some (.cells #[.slice A N c] 28 (0, 0))
  hl : ∀ x : Int, 0 ≤ x → x < N → ∃ ad, A = some ad ∧ w.cell? (ad.add x.toNat) = some (.int .i64 (rd l x)) ∧ ad.block < n₀ ∧ ad.block ≠ bn
  ne : bi ≠ bn
  lt : bi < n₀
  lt2 : bn < n₀
  ll : l.length = N
/-- Between two rounds: the box holds the j-th on the way up. -/
structure It (w W : World) (n₀ bn : Nat) (y : Int) : Prop where
  bx : W.heap[bn]? = some (.cells #[.int .i64 y] 3 (0, 0))
  sm : ∀ k, k < n₀ → k ≠ bn → W.heap[k]? = w.heap[k]?

set_option maxRecDepth 100000 in
set_option maxHeartbeats 2000000 in
theorem up_iter (n : Nat) (hn : 2 ≤ n) (n₀ bn bi N : Nat) (A : Option Addr) (c : Nat) (l : List Int) (b : Int) (k : Nat) (w : World) (hw : Ib w n₀ bn bi N A c l b) (hk : Up l b k) :
    RangeC.IterC Fence.wide n Try.prog 49 #[.pointer (some ⟨bn, 0, none⟩), .pointer (some ⟨bi, 0, none⟩)] (fun x : Int => #[Value.int .i64 x]) n₀ bn (ups l k b) w := by
  intro L go J Jx W hs hJ hJx hst hY h0
  have hX := Aside0.mk (And.intro hw (And.intro hk (And.intro hJ (And.intro hJx (And.intro hst hY)))))
  have hI0 : Aside0 (It w W n₀ bn (upAt l 0 b) ∧ J ((ups l k b).take 0) W ∧ ∀ x ∈ (ups l k b).take 0, go x = true) := ⟨⟨(hs bn hw.lt2).trans hw.hn, fun j h1 _ => hs j h1⟩, h0, by simp⟩
  clear hs hJ hJx hst hY h0 hw hk
  refine callsIn_of_wp Try.func49 rfl trivial ?_ rfl
  simp only [Try.ntmps49, List.size_toArray, List.length_cons, List.length_nil, Nat.reduceAdd, Nat.reduceSub, Array.replicate_succ, Array.replicate_zero, List.push_toArray, List.append_toArray, List.nil_append, List.cons_append]
  gi_wp2_with fail
  gi_loopg [] k (fun q wi => ∃ j : Nat, j + q = k ∧ Aside0 (It w wi n₀ bn (upAt l j b) ∧ J ((ups l k b).take j) wi ∧ ∀ x ∈ (ups l k b).take j, go x = true))
  case atStart => exact ⟨0, by omega, hI0⟩
  case round =>
    obtain ⟨j, hj, hI⟩ := hrel
    have hjk : j ≤ k := by omega
    obtain ⟨y, hy⟩ : ∃ y, upAt l j b = y := ⟨_, rfl⟩
    have hup := up_at k j b hX.out.2.1 hjk
    rw [hy] at hI hup
    have hyx := hup.idx
    have hy0 := hyx.1
    have hy1 : y < N := by have := hyx.2; rw [hX.out.1.ll] at this; exact this
    have q1 : wr.cell? ⟨bn, 0, none⟩ = some (.int .i64 y) := cell_at hI.out.1.bx rfl
    have hsplit : ∃ rest, ups l k b = (ups l k b).take j ++ y :: rest := by
      have h1 : j < (ups l k b).length := by rw [ups_len]; omega
      have h2 := ups_get l k j b hjk
      rw [hy, List.getElem?_eq_getElem h1] at h2
      refine ⟨(ups l k b).drop (j + 1), ?_⟩
      rw [← Option.some.inj h2, ← List.drop_eq_getElem_cons h1, List.take_append_drop]
    have hYs := Aside0.mk (fun q => hX.out.2.2.2.2.2 ((ups l k b).take j) y (wr.drewN q) (hX.out.2.2.1 _ wr (wr.drewN q) none hI.out.2.1 ⟨rfl, rfl, rfl, Nat.le_refl _, fun _ _ _ => rfl⟩ (fun r e => by cases e)) hsplit)
    obtain ⟨ad, eA, z1, z2, z3⟩ := hX.out.1.hl y hy0 hy1
    subst eA
    have hY1 : YieldAt Fence.wide (n - 1) Try.prog L #[.int .i64 y] wr.drew fun e W' => e = .returned (.bool (go y)) ∧ (go y = true → J ((ups l k b).take j ++ [y]) W' ∧ RangeC.Sm n₀ wr W') ∧ (go y = false → Jx ((ups l k b).take j ++ [y]) W') := hYs.out 1
    obtain ⟨fn, tmps, assign, body, hyy, hR⟩ := hY1
    have hR := Aside0.mk hR
    have hzb := Aside0.mk (fun (W : World) (h : It w W n₀ bn y) => (cell_blk (w := w) (W := W) (a := ad.add y.toNat) (by rw [add_blk]; exact h.sm _ z2 z3)).trans z1)
    have hZ := Aside0.mk (And.intro hup hsplit)
    have hMk := Aside0.mk (fun (W3 : World) (hk3 : RangeC.Sm n₀ wr W3) => show It w W3 n₀ bn y from ⟨(hk3 bn hX.out.1.lt2).trans hI.out.1.bx, fun i h1 h2 => (hk3 i h1).trans (hI.out.1.sm i h1 h2)⟩)
    clear hup hyx hsplit hYs z1 z2 z3
    have hsn : Aside0 ((ups l k b).take (j + 1) = (ups l k b).take j ++ [y]) := ⟨by
      have h1 : j < (ups l k b).length := by rw [ups_len]; omega
      have h2 := ups_get l k j b hjk
      rw [hy, List.getElem?_eq_getElem h1] at h2
      rw [List.take_succ_eq_append_getElem h1, Option.some.inj h2]⟩
    have hy' := Aside0.mk hy
    clear hy
    gi_wp2_with fail
    by_cases hgo : go y = true
    · have hall : Aside0 (∀ x ∈ (ups l k b).take (j + 1), go x = true) := ⟨fun x hx => by
        rw [hsn.out, List.mem_append] at hx
        rcases hx with hx | hx
        · exact hI.out.2.2 x hx
        · rw [List.mem_singleton.1 hx]; exact hgo⟩
      rw [hgo] at hR
      have hR2 : Aside0 (RoundIn Fence.wide (n - 1) Try.prog L fn tmps assign body wr.drew fun e W' => e = .returned (.bool true) ∧ J ((ups l k b).take (j + 1)) W' ∧ RangeC.Sm n₀ wr W') := ⟨hR.out.mono fun e W' h => ⟨h.1, by rw [hsn.out]; exact h.2.1 rfl⟩⟩
      clear hR hgo
      by_cases hroot : rd l y = y
      · have hjk2 : Aside0 (j = k) := ⟨by have := (up_root hZ.out.1).1 hroot; omega⟩
        have hp := hroot
        have e1 : (y != y) = false := by simp
        clear hroot
        gi_region_with (
          (refine ⟨(fun _ => by omega), hR2.out.mono ?_⟩
           rintro e W3 ⟨rfl, hJ3, hk3⟩
           have H3 := Aside0.mk (And.intro (hMk.out W3 hk3) hJ3)
           have r1 : W3.cell? ⟨bn, 0, none⟩ = some (.int .i64 y) := cell_at H3.out.1.bx rfl
           have f1 : W3.frozen? ⟨bn, 0, none⟩ = false := free_at H3.out.1.bx 0
           have r2 : W3.cell? ⟨bi, 0, none⟩ = some (.slice (some ad) N c) := cell_at ((H3.out.1.sm bi hX.out.1.lt hX.out.1.ne).trans hX.out.1.hi) rfl
           have r3 := hzb.out W3 H3.out.1
           rw [hp] at r3
           clear hJ3 hk3))
        all_goals
          have hF : Aside0 ((∀ x ∈ ups l k b, go x = true) ∧ J (ups l k b) W3) := ⟨by
            have h1 := hall.out
            have h2 := H3.out.2
            rw [hjk2.out, List.take_of_length_le (by rw [ups_len]; exact Nat.le_refl _)] at h1 h2
            exact ⟨h1, h2⟩⟩
          clear r1 r2 r3 f1 H3
          gi_wp2
          go_end0
          exact ⟨⟨_, rfl⟩, .inl hF.out⟩
      · have hjk2 : j < k := by
          have h1 := up_root hZ.out.1
          have h2 : ¬ k - j = 0 := fun h3 => hroot (h1.2 h3)
          omega
        obtain ⟨gk1, rfl⟩ : ∃ q, gk = q + 1 := ⟨gk - 1, by omega⟩
        have hj1 : j + 1 + gk1 = k := by omega
        have hgk1 : gk1 < gk1 + 1 := by omega
        have hnx : Aside0 (upAt l (j + 1) b = rd l y) := ⟨by rw [upAt_succ, hy'.out]⟩
        obtain ⟨p, hp⟩ : ∃ p, rd l y = p := ⟨_, rfl⟩
        rw [hp] at hnx hroot
        have e1 : (p != y) = true := by simpa using hroot
        clear hroot hjk2
        gi_region_with (
          (refine ⟨(fun _ => by omega), hR2.out.mono ?_⟩
           rintro e W3 ⟨rfl, hJ3, hk3⟩
           have H3 := Aside0.mk (And.intro (hMk.out W3 hk3) hJ3)
           have r1 : W3.cell? ⟨bn, 0, none⟩ = some (.int .i64 y) := cell_at H3.out.1.bx rfl
           have f1 : W3.frozen? ⟨bn, 0, none⟩ = false := free_at H3.out.1.bx 0
           have r2 : W3.cell? ⟨bi, 0, none⟩ = some (.slice (some ad) N c) := cell_at ((H3.out.1.sm bi hX.out.1.lt hX.out.1.ne).trans hX.out.1.hi) rfl
           have r3 := hzb.out W3 H3.out.1
           rw [hp] at r3
           clear hJ3 hk3))
        all_goals
          have hI2 : Aside0 (It w (W3.setCell ⟨bn, 0, none⟩ (.int .i64 p)) n₀ bn (upAt l (j + 1) b) ∧ J ((ups l k b).take (j + 1)) (W3.setCell ⟨bn, 0, none⟩ (.int .i64 p)) ∧ ∀ x ∈ (ups l k b).take (j + 1), go x = true) := ⟨⟨by
              rw [hnx.out]
              have := set_at (j := 0) H3.out.1.bx (.int .i64 p)
              simpa using this, fun i h1 h2 => (RangeC.keep_set (base := 0) h2).trans (H3.out.1.sm i h1 h2)⟩, hX.out.2.2.2.2.1 _ _ _ H3.out.2, hall.out⟩
          clear H3 hp
          gi_wp2_with fail
          gi_roundg gk1
          case rel => exact ⟨j + 1, hj1, hI2⟩
          case measure => exact hgk1
    · have hgf : go y = false := by simpa using hgo
      have hall : Aside0 (∀ x ∈ (ups l k b).take j, go x = true) := ⟨hI.out.2.2⟩
      have hN := Aside0.mk hgf
      rw [hgf] at hR
      have hR2 : Aside0 (RoundIn Fence.wide (n - 1) Try.prog L fn tmps assign body wr.drew fun e W' => e = .returned (.bool false) ∧ Jx ((ups l k b).take j ++ [y]) W') := ⟨hR.out.mono fun e W' h => ⟨h.1, h.2.2 rfl⟩⟩
      clear hR hgo hgf
      gi_region_with (
        (refine ⟨(fun _ => by omega), hR2.out.mono ?_⟩
         rintro e W3 ⟨rfl, hJ3⟩
         have H3 := Aside0.mk hJ3
         clear hJ3))
      all_goals
        have hF : Aside0 (∃ pre x, (∃ rest, ups l k b = pre ++ x :: rest) ∧ (∀ y ∈ pre, go y = true) ∧ go x = false ∧ Jx (pre ++ [x]) W3) := ⟨(ups l k b).take j, y, hZ.out.2, hall.out, hN.out, H3.out⟩
        clear H3
        gi_wp2
        go_end0
        exact ⟨⟨_, rfl⟩, .inr hF.out⟩
end Go.Proofs.Ytbphjbfnnhfhlaa
end

section
/- domtree.up and Dominates. -/
set_option linter.unusedVariables false
set_option linter.unusedSimpArgs false
set_option linter.unusedSectionVars false
namespace Go.Proofs.Ytbphjbfnnhfhlaa
open Go.RowKit Go.Shelf Go.Proofs.YtbphjbfnnhfhlaaW.PrintWords Go.Proofs.Ytbphjbfnnhfhlaa.PDigraphTells Mem
attribute [local go_sem] Oper.semAt_some

set_option maxRecDepth 100000 in
theorem up_any (A : Option Addr) (n c : Nat) (b : Int) (w : World) :
    Calls Try.prog 40 #[.slice A n c, .int .i64 b] w fun e w' => e = .returned (.func (.func 49) #[] #[.pointer (some ⟨w.heap.size + 1, 0, none⟩), .pointer (some ⟨w.heap.size, 0, none⟩)]) ∧ w' = (w.alloc (.cells #[.slice A n c] 28)).alloc (.cells #[.int .i64 b] 3) := by
  go_enter Try.func40, Try.ntmps40
  go_wp2
  go_ret
  exact ⟨rfl, rfl⟩

/-- Both are nodes of the tree. -/
def InT (l : List Int) (a b : Int) : Prop := Tree l ∧ idx l a ∧ idx l b ∧ rd l a ≠ -1 ∧ rd l b ≠ -1
/-- What Dominates answers. -/
def DQ (l : List Int) (a b : Int) (w : World) (e : Ending) (w' : World) : Prop := ∃ r, e = .returned (.bool r) ∧ (r = true ↔ InT l a b ∧ On l a b) ∧ Below w.heap.size w w'
theorem DQ.no {l : List Int} {a b : Int} {w w' : World} (h : ¬ InT l a b) (hb : Below w.heap.size w w') : DQ l a b w (.returned (.bool false)) w' := ⟨false, rfl, ⟨fun h => (by cases h), fun h2 => absurd h2.1 h⟩, hb⟩

set_option maxRecDepth 100000 in
set_option maxHeartbeats 2000000 in
theorem dominates_no (A : Option Addr) (c : Nat) (l : List Int) (a b : Int) (w : World) (hC : Kd.C (Kd.int .i64) w A l.length l) (hc : l.length ≤ c) (hl : l.length ≤ 70) (h : ¬ InT l a b) :
    Calls Try.prog 21 #[.slice A l.length c, .int .i64 a, .int .i64 b] w (DQ l a b w) := by
  have hX := Aside0.mk (And.intro hC (And.intro hc (And.intro hl h)))
  clear hC hc hl h
  go_enter Try.func21, Try.ntmps21
  go_wp2_with fail
  obtain ⟨w1, hw1⟩ : ∃ w1, w1 = (w.alloc (.cells #[.int .i64 a] 3)).alloc (.cells #[.bool false] 4) := ⟨_, rfl⟩
  obtain ⟨pa, hpa⟩ : ∃ pa, pa = w.heap.size := ⟨_, rfl⟩
  obtain ⟨pr, hpr⟩ : ∃ pr, pr = w.heap.size + 1 := ⟨_, rfl⟩
  have hB := Aside0.mk (show w1.heap[pa]? = some (.cells #[.int .i64 a] 3 (0, 0)) ∧ w1.heap[pr]? = some (.cells #[.bool false] 4 (0, 0)) ∧ Below w.heap.size w w1 ∧ w.heap.size ≤ pr by
    have h1 := heap_alloc_new (w.alloc (.cells #[.int .i64 a] 3)) (.cells #[.bool false] 4)
    rw [World.size_alloc] at h1
    refine ⟨?_, by rw [hw1, hpr]; exact h1, by rw [hw1]; exact below_alloc (below_alloc (Below.refl _ _) _) _, by omega⟩
    rw [hw1, hpa]
    exact ((below_alloc (Below.refl _ (w.alloc _)) _).block _ (by simp)).trans (heap_alloc_new w _))
  rw [← hpr, ← hpa, ← hw1]
  clear hw1 hpa hpr
  refine (depths_any A c l _ (Kd.C_below hX.out.1 hB.out.2.2.1) hX.out.2.1 hX.out.2.2.1).mono ?_
  rintro e' w2 ⟨v, bo, rfl, hyes, hno, B2⟩
  have h2 := Aside0.mk (show w2.heap[pa]? = some (.cells #[.int .i64 a] 3 (0, 0)) ∧ w2.heap[pr]? = some (.cells #[.bool false] 4 (0, 0)) ∧ Below w.heap.size w w2 from
    ⟨(B2.block _ (blk_lt' hB.out.1)).trans hB.out.1, (B2.block _ (blk_lt' hB.out.2.1)).trans hB.out.2.1, hB.out.2.2.1.trans (B2.mono hB.out.2.2.1.size)⟩)
  have q1 : w2.cell? ⟨pa, 0, none⟩ = some (.int .i64 a) := cell_at h2.out.1 rfl
  have q2 : w2.cell? ⟨pr, 0, none⟩ = some (.bool false) := cell_at h2.out.2.1 rfl
  have q3 : w2.frozen? ⟨pr, 0, none⟩ = false := free_at h2.out.2.1 0
  have hF := Aside0.mk (show DQ l a b w (.returned (.bool false)) (w2.setCell ⟨pr, 0, none⟩ (.bool false)) from DQ.no hX.out.2.2.2 (h2.out.2.2.setCell (p := ⟨pr, 0, none⟩) hB.out.2.2.2 _))
  have q4 : (w2.setCell ⟨pr, 0, none⟩ (.bool false)).cell? ⟨pr, 0, none⟩ = some (.bool false) := World.cell?_setCell_same' _ _ _ (by rw [q2]; rfl)
  cases bo
  · clear hyes hno B2
    go_wp2
    exact bodyPost_ret (v := .bool false) (by simp [results, Try.results21, go_sem, q4]) rfl hF.out
  · obtain ⟨hT, d, hR, hd⟩ := hyes rfl
    obtain ⟨Ad, cd, ev, hx, Cx⟩ := Kd.R_reads hR
    rw [hd.len] at ev Cx
    subst ev
    have hD := Aside0.mk (And.intro hT (And.intro hd Cx))
    clear hyes hno B2 hR hd Cx hx hT
    by_cases ha0 : a < 0
    · go_wp2
      exact bodyPost_ret (v := .bool false) (by simp [results, Try.results21, go_sem, q4]) rfl hF.out
    by_cases ha1 : (l.length : Int) ≤ a
    · go_wp2
      exact bodyPost_ret (v := .bool false) (by simp [results, Try.results21, go_sem, q4]) rfl hF.out
    by_cases hb0 : b < 0
    · go_wp2
      exact bodyPost_ret (v := .bool false) (by simp [results, Try.results21, go_sem, q4]) rfl hF.out
    by_cases hb1 : (l.length : Int) ≤ b
    · go_wp2
      exact bodyPost_ret (v := .bool false) (by simp [results, Try.results21, go_sem, q4]) rfl hF.out
    obtain ⟨la, eA, z1⟩ := Kd.at_int hD.out.2.2 a (by omega) (by omega)
    subst eA
    have hia : Aside0 (idx l a ∧ idx l b) := ⟨⟨by omega, by omega⟩, ⟨by omega, by omega⟩⟩
    by_cases hda : rd l a = -1
    · rw [hD.out.2.1.out a hia.out.1 hda] at z1
      clear hda
      go_wp2
      exact bodyPost_ret (v := .bool false) (by simp [results, Try.results21, go_sem, q4]) rfl hF.out
    obtain ⟨ka, hka, _⟩ := hD.out.2.1.at_ a hia.out.1 hda
    rw [hka] at z1
    obtain ⟨la', eA', z2⟩ := Kd.at_int hD.out.2.2 b (by omega) (by omega)
    injection eA' with eA'
    subst eA'
    by_cases hdb : rd l b = -1
    · rw [hD.out.2.1.out b hia.out.2 hdb] at z2
      clear hda hka hdb
      go_wp2
      exact bodyPost_ret (v := .bool false) (by simp [results, Try.results21, go_sem, q4]) rfl hF.out
    · exact absurd ⟨hD.out.1, hia.out.1, hia.out.2, hda, hdb⟩ hX.out.2.2.2

theorem on_ups {l : List Int} {a : Int} : ∀ (k : Nat) (b : Int), Up l b k → (On l a b ↔ a ∈ ups l k b) := by
  intro k
  induction k with
  | zero =>
    intro b hu
    cases hu with
    | root h e =>
      rw [ups, List.mem_singleton]
      constructor
      · intro o
        cases o with
        | refl => rfl
        | step _ e2 _ => exact absurd e e2
      · rintro rfl; exact .refl
  | succ k ih =>
    intro b hu
    cases hu with
    | step h e u =>
      rw [ups, List.mem_cons, ← ih _ u]
      constructor
      · intro o
        cases o with
        | refl => exact .inl rfl
        | step _ _ o2 => exact .inr o2
      · rintro (rfl | o)
        · exact .refl
        · exact .step h e o
theorem frame_abs {P : Program} {code : Code} {Q : Exit → Act → World → Prop} {a : Act} {w : World} (h : ∀ a', a' = a → Code.wp P code Q a' w) : Code.wp P code Q a w := h a rfl
/-- What up has laid. -/
theorem ib_of {w w2 : World} {A : Option Addr} {c : Nat} {l : List Int} (b : Int) (hC : Kd.C (Kd.int .i64) w A l.length l) (hb : Below w.heap.size w w2) :
    Ib ((w2.alloc (.cells #[.slice A l.length c] 28)).alloc (.cells #[.int .i64 b] 3)) (w2.heap.size + 2) (w2.heap.size + 1) w2.heap.size l.length A c l b := by
  have h1 := heap_alloc_new (w2.alloc (.cells #[.slice A l.length c] 28)) (.cells #[.int .i64 b] 3)
  rw [World.size_alloc] at h1
  have h2 : Below w2.heap.size w2 ((w2.alloc (.cells #[.slice A l.length c] 28)).alloc (.cells #[.int .i64 b] 3)) := below_alloc (below_alloc (Below.refl _ _) _) _
  refine ⟨h1, ((below_alloc (Below.refl _ (w2.alloc _)) _).block _ (by simp)).trans (heap_alloc_new w2 _), fun x h3 h4 => ?_, by omega, by omega, by omega, rfl⟩
  obtain ⟨ad, eA, hc⟩ := Kd.at_int hC x h3 h4
  have hlt := World.block_lt_of_cell? w _ hc
  rw [add_blk] at hlt
  have s := hb.size
  refine ⟨ad, eA, ?_, by omega, by omega⟩
  have hc2 := (hb.cell (p := ad.add x.toNat) (by rw [add_blk]; exact hlt)).trans hc
  exact (h2.cell (p := ad.add x.toNat) (by rw [add_blk]; omega)).trans hc2

set_option maxRecDepth 100000 in
set_option maxHeartbeats 4000000 in
theorem dominates_yes (A : Option Addr) (c : Nat) (l : List Int) (a b : Int) (w : World) (hC : Kd.C (Kd.int .i64) w A l.length l) (hc : l.length ≤ c) (hl : l.length ≤ 70) (h : InT l a b) :
    Calls Try.prog 21 #[.slice A l.length c, .int .i64 a, .int .i64 b] w (DQ l a b w) := by
  have hX := Aside0.mk (And.intro hC (And.intro hc (And.intro hl h)))
  have a0 : 0 ≤ a := h.2.1.1
  have a1 : a < (l.length : Int) := h.2.1.2
  have b0 : 0 ≤ b := h.2.2.1.1
  have b1 : b < (l.length : Int) := h.2.2.1.2
  clear hC hc hl h
  refine (callsIn_wide (n := 4)).1 ?_
  refine callsIn_of_wp_marks Try.func21 rfl trivial ?_ rfl
  simp only [Try.ntmps21, List.size_toArray, List.length_cons, List.length_nil, Nat.reduceAdd, Nat.reduceSub, Array.replicate_succ, Array.replicate_zero, List.push_toArray, List.append_toArray, List.nil_append, List.cons_append]
  refine wpIn_wide.2 ?_
  go_wp2_with fail
  obtain ⟨w1, hw1⟩ : ∃ w1, w1 = (w.alloc (.cells #[.int .i64 a] 3)).alloc (.cells #[.bool false] 4) := ⟨_, rfl⟩
  obtain ⟨pa, hpa⟩ : ∃ pa, pa = w.heap.size := ⟨_, rfl⟩
  obtain ⟨pr, hpr⟩ : ∃ pr, pr = w.heap.size + 1 := ⟨_, rfl⟩
  have hB := Aside0.mk (show w1.heap[pa]? = some (.cells #[.int .i64 a] 3 (0, 0)) ∧ w1.heap[pr]? = some (.cells #[.bool false] 4 (0, 0)) ∧ Below w.heap.size w w1 ∧ w.heap.size ≤ pr ∧ pr < w1.heap.size ∧ pa < pr by
    have h1 := heap_alloc_new (w.alloc (.cells #[.int .i64 a] 3)) (.cells #[.bool false] 4)
    rw [World.size_alloc] at h1
    refine ⟨?_, by rw [hw1, hpr]; exact h1, by rw [hw1]; exact below_alloc (below_alloc (Below.refl _ _) _) _, by omega, by rw [hw1, hpr]; simp, by omega⟩
    rw [hw1, hpa]
    exact ((below_alloc (Below.refl _ (w.alloc _)) _).block _ (by simp)).trans (heap_alloc_new w _))
  rw [← hpr, ← hpa, ← hw1]
  clear hw1 hpa hpr
  refine (depths_any A c l _ (Kd.C_below hX.out.1 hB.out.2.2.1) hX.out.2.1 hX.out.2.2.1).mono ?_
  rintro e' w2 ⟨v, bo, rfl, hyes, hno, B2⟩
  have h2 := Aside0.mk (show w2.heap[pa]? = some (.cells #[.int .i64 a] 3 (0, 0)) ∧ w2.heap[pr]? = some (.cells #[.bool false] 4 (0, 0)) ∧ Below w.heap.size w w2 ∧ pr < w2.heap.size from
    ⟨(B2.block _ (blk_lt' hB.out.1)).trans hB.out.1, (B2.block _ (blk_lt' hB.out.2.1)).trans hB.out.2.1, hB.out.2.2.1.trans (B2.mono hB.out.2.2.1.size), by have := B2.size; have := hB.out.2.2.2.2.1; omega⟩)
  have q1 : w2.cell? ⟨pa, 0, none⟩ = some (.int .i64 a) := cell_at h2.out.1 rfl
  obtain rfl : bo = true := by
    cases bo with
    | true => rfl
    | false => exact absurd hX.out.2.2.2.1 (hno rfl)
  obtain ⟨hT, d, hR, hd⟩ := hyes rfl
  obtain ⟨Ad, cd, ev, hx, Cx⟩ := Kd.R_reads hR
  rw [hd.len] at ev Cx
  subst ev
  obtain ⟨ka, hka, _⟩ := hd.at_ a hX.out.2.2.2.2.1 hX.out.2.2.2.2.2.2.1
  obtain ⟨k, hkb, hup⟩ := hd.at_ b hX.out.2.2.2.2.2.1 hX.out.2.2.2.2.2.2.2
  obtain ⟨la, eA, z1⟩ := Kd.at_int Cx a a0 a1
  obtain ⟨la', eA', z2⟩ := Kd.at_int Cx b b0 b1
  subst eA
  injection eA' with eA'
  subst eA'
  rw [hka] at z1
  rw [hkb] at z2
  have hU := Aside0.mk hup
  clear hyes hno B2 hR hd Cx hx hT hka hkb hup
  go_wp2_with fail
  refine (up_any A l.length c b _).mono ?_
  rintro e' w3 ⟨rfl, rfl⟩
  clear q1 z1 z2
  go_wp2
  obtain ⟨w3, hw3⟩ : ∃ w3, w3 = (w2.alloc (.cells #[.slice A l.length c] 28)).alloc (.cells #[.int .i64 b] 3) := ⟨_, rfl⟩
  have hib := ib_of (c := c) b hX.out.1 h2.out.2.2.1
  rw [← hw3] at hib ⊢
  have hsz : w3.heap.size = w2.heap.size + 2 := by rw [hw3]; simp
  have b23 : Below w2.heap.size w2 w3 := by rw [hw3]; exact below_alloc (below_alloc (Below.refl _ _) _) _
  have hpr2 := h2.out.2.2.2
  have hpa2 := hB.out.2.2.2.2.2
  have hI0 : Boxed w3 pr 4 (.bool false) ∧ Boxed w3 pa 3 (.int .i64 a) ∧ Below w.heap.size w w3 := ⟨(b23.block _ (blk_lt' h2.out.2.1)).trans h2.out.2.1, (b23.block _ (blk_lt' h2.out.1)).trans h2.out.1, h2.out.2.2.1.trans (b23.mono h2.out.2.2.1.size)⟩
  have hws := h2.out.2.2.1.size
  clear hw3 b23
  refine frame_abs ?_
  intro a' ha'
  have h14 : 1 ≤ 4 := by omega
  refine (wpIn_wide (n := 4)).1 ?_
  refine RangeC.range_c (gf := 49) (lb := #[.pointer (some ⟨w2.heap.size + 1, 0, none⟩), .pointer (some ⟨w2.heap.size, 0, none⟩)]) (encs := fun x : Int => #[Value.int .i64 x]) (n₀ := w2.heap.size + 2) (bn := w2.heap.size + 1) (xs := ups l k b) rfl h14 (by rw [ha']; rfl) trivial (enters_of Try.func49 (by kernel_rfl) rfl)
    (up_iter (4 - 1) (by omega) _ _ _ _ _ _ l b k w3 hib hU.out) (fun x => decide (x ≠ a)) (by omega) (by omega) (fun _ => rfl)
    (fun pre W => Boxed W pr 4 (.bool false) ∧ Boxed W pa 3 (.int .i64 a) ∧ Below w.heap.size w W)
    (fun pre W => Boxed W pr 4 (.bool true) ∧ Below w.heap.size w W)
    (OwnFrom.and (Own.from (boxed_own pr 4 (fun _ => .bool false)) _) (OwnFrom.and (Own.from (boxed_own pa 3 (fun _ => .int .i64 a)) _) (ownFrom_below (Nat.le_refl _) (by omega))))
    (OwnFrom.and (Own.from (boxed_own pr 4 (fun _ => .bool true)) _) (ownFrom_below (Nat.le_refl _) (by omega)))
    (fun pre X u hs => ⟨hs.1.other (by omega) u, hs.2.1.other (by omega) u, hs.2.2.setCell (p := ⟨w2.heap.size + 1, 0, none⟩) (by show w.heap.size ≤ w2.heap.size + 1; omega) _⟩)
    hI0
    (fun pre x a'' W => a'' = { tmps := (a'.tmps.setIfInBounds 54 (.int .i64 x)).setIfInBounds 9 (.int .i64 x), defers := [] } ∧ Boxed W pr 4 (.bool false) ∧ Boxed W pa 3 (.int .i64 a) ∧ Below w.heap.size w W)
    (fun pre x a'' => OwnFrom.and (ownFrom_pure _ _) (OwnFrom.and (Own.from (boxed_own pr 4 (fun _ => .bool false)) _) (OwnFrom.and (Own.from (boxed_own pa 3 (fun _ => .int .i64 a)) _) (ownFrom_below (Nat.le_refl _) (by omega)))))
    ?assign ?body ?done ?stop
  case assign =>
    intro L pre x W K hI hx hK
    have hK' := Aside0.mk (hK _ W (KeepsFrom.refl _ _) (RangeC.Sm.refl _ _) ⟨rfl, hI⟩)
    clear hK hI
    subst ha'
    gi_wp2
    simpa using hK'.out
  case body =>
    rintro L pre x a'' W hL _ hx ⟨rfl, hb1, hb2, hbB⟩
    have p1 := hb2.cell
    have p2 := hb1.cell
    have p3 := hb1.frozen
    have hN := Aside0.mk (And.intro hb1 (And.intro hb2 hbB))
    clear hb1 hb2 hbB
    subst ha'
    simp only [List.setIfInBounds_toArray, List.set_cons_succ, List.set_cons_zero]
    by_cases hxa : x = a
    · subst hxa
      gi_wp2
      exact ⟨by simp, (KeepsOthers.setCell _ _ _).from _, hN.out.1.set _, hN.out.2.2.setCell (p := ⟨pr, 0, none⟩) hB.out.2.2.2.1 _⟩
    · have e1 : (x == a) = false := by simpa using hxa
      have e2 := Aside0.mk hxa
      clear hxa
      gi_wp2
      exact ⟨by simpa using e2.out, KeepsFrom.refl _ _, RangeC.Sm.refl _ _, hN.out⟩
  case done =>
    rintro D W hD hall ⟨hb1, hb2, hbB⟩ hK
    have p2 := hb1.cell
    have p3 := hb1.frozen
    have q4 : (W.setCell ⟨pr, 0, none⟩ (.bool false)).cell? ⟨pr, 0, none⟩ = some (.bool false) := World.cell?_setCell_same' _ _ _ (by rw [p2]; rfl)
    have hN := Aside0.mk (And.intro hb1 (And.intro hb2 (And.intro hbB (And.intro hall (And.intro hK hD)))))
    clear hb1 hb2 hbB hall hK hD
    subst ha'
    go_wp2
    have hK2 : (W.setCell ⟨pr, 0, none⟩ (.bool false)).heap[D]? = some (.deferred (some [])) := (RangeC.keep_set (base := 0) (by have := hN.out.2.2.2.2.2; omega)).trans hN.out.2.2.2.2.1
    have hbx := hN.out.1.set (.bool false)
    have q5 : ((W.setCell ⟨pr, 0, none⟩ (.bool false)).putObj D (.deferred none)).cell? ⟨pr, 0, none⟩ = some (.bool false) := cell_at ((World.putObj_heap_other (by have := hN.out.2.2.2.2.2; omega)).trans hbx) rfl
    refine ⟨by simp, .inl ⟨_, _, rfl, run_takeDeferred hK2, ?_⟩⟩
    refine ⟨.bool false, (by simp [results, Try.results21, go_sem, q5]), false, rfl, ⟨fun h => (by cases h), fun h => ?_⟩, ?_⟩
    · have h1 := (on_ups k b hU.out).1 h.2
      have := hN.out.2.2.2.1 a h1
      simp at this
    · exact (hN.out.2.2.1.setCell (p := ⟨pr, 0, none⟩) hB.out.2.2.2.1 _).trans (belowK_b (w := w) (Nat.le_refl _) _ D _ _ (by have := hN.out.2.2.2.2.2; omega) hK2 rfl rfl)
  case stop =>
    rintro D pre x W hD ⟨rest, hpre⟩ _ hx ⟨hb1, hbB⟩ hK
    have hxa : x = a := by simpa using hx
    have hN := Aside0.mk (And.intro hb1 (And.intro hbB (And.intro hK (And.intro hD (And.intro hpre hxa)))))
    clear hb1 hbB hK hD hx hpre hxa
    subst ha'
    refine wpIn_wide.2 ?_
    go_wp2
    have q5 : (W.putObj D (.deferred none)).cell? ⟨pr, 0, none⟩ = some (.bool true) := cell_at ((World.putObj_heap_other (by have := hN.out.2.2.2.1; omega)).trans hN.out.1) rfl
    refine ⟨by simp, .inl ⟨_, _, rfl, run_takeDeferred hN.out.2.2.1, ?_⟩⟩
    refine ⟨.bool true, (by simp [results, Try.results21, go_sem, q5]), true, rfl, ⟨fun _ => ⟨hX.out.2.2.2, (on_ups k b hU.out).2 ?_⟩, fun _ => rfl⟩, ?_⟩
    · rw [hN.out.2.2.2.2.1, ← hN.out.2.2.2.2.2]; simp
    · exact hN.out.2.1.trans (belowK_b (w := w) (Nat.le_refl _) _ D _ _ (by have := hN.out.2.2.2.1; omega) hN.out.2.2.1 rfl rfl)
theorem dominates_any (A : Option Addr) (c : Nat) (l : List Int) (a b : Int) (w : World) (hC : Kd.C (Kd.int .i64) w A l.length l) (hc : l.length ≤ c) (hl : l.length ≤ 70) :
    Calls Try.prog 21 #[.slice A l.length c, .int .i64 a, .int .i64 b] w (DQ l a b w) := by
  by_cases h : InT l a b
  · exact dominates_yes A c l a b w hC hc hl h
  · exact dominates_no A c l a b w hC hc hl h
end Go.Proofs.Ytbphjbfnnhfhlaa
end

