import Derived.Test.YtbphjbfnnhfhlaaMRem9
section
/- Children. -/
set_option linter.unusedVariables false
set_option linter.unusedSimpArgs false
set_option linter.unusedSectionVars false
namespace Go.Proofs.Ytbphjbfnnhfhlaa
open Go.RowKit Go.Proofs.YtbphjbfnnhfhlaaW.PrintWords Go.Proofs.Ytbphjbfnnhfhlaa.PDigraphTells Mem

/-- A row of rows, one of them taken out, written and put back. -/
theorem kid_open {W : World} {ok : Nat → Prop} {g n cap : Nat} {xs : List (List Int)} (hS : Kd.S kG 28 W 0 ok (.slice (some ⟨g, 0, none⟩) n cap) xs) (p : Int) (h0 : 0 ≤ p) (h1 : p < n) :
    ∃ A0 c0, ∃ oki : Nat → Prop, W.cell? ⟨g, p.toNat, none⟩ = some (.slice A0 (rd_L1 xs p).length c0) ∧ W.frozen? ⟨g, p.toNat, none⟩ = false ∧ Kd.R (Kd.int .i64) 3 W 0 oki (.slice A0 (rd_L1 xs p).length c0) (rd_L1 xs p) ∧ (∀ k, oki k → ok k ∧ k ≠ g) ∧
      ∀ w1 v1 ys, W.grownBy w1 (Value.slice A0 (rd_L1 xs p).length c0).ownBlock → Kd.R (Kd.int .i64) 3 w1 0 (fun k => oki k ∨ ok k ∧ W.heap.size ≤ k) v1 ys →
        w1.cell? ⟨g, p.toNat, none⟩ = some (.slice A0 (rd_L1 xs p).length c0) ∧ w1.frozen? ⟨g, p.toNat, none⟩ = false ∧ Kd.S kG 28 (w1.setCell ⟨g, p.toNat, none⟩ v1) 0 ok (.slice (some ⟨g, 0, none⟩) n cap) (xs.set p.toNat ys) := by
  obtain ⟨oki, ce, hcl, hM, hcc, hfr, hoki, hH⟩ := Kd.S_elem hS [] p h0 h1
  obtain ⟨ve, rfl, ge⟩ := hM
  have hv := hcc 0 _ rfl
  have hf := hfr 0
  rw [Nat.add_zero, show (Kd.slice 3 (Kd.int .i64)).sz = 1 from rfl, Nat.mul_one] at hv hf
  obtain ⟨A0, c0, ev, _, _⟩ := Kd.R_reads ge
  subst ev
  refine ⟨A0, c0, oki, hv, hf, ge, hoki, fun w1 v1 ys hg hR => ?_⟩
  have hH1 := Kd.H_grown (Kd.H_widen hH) hg (fun k e => .inl (ge.1 k e))
  obtain ⟨g1, g2⟩ := Kd.H_at hH1 h0 h1
  have g1 := g1 0 _ rfl
  have g2 := g2 0
  rw [Nat.add_zero, show (Kd.slice 3 (Kd.int .i64)).sz = 1 from rfl, Nat.mul_one] at g1 g2
  have hP := (Kd.S_seg0 hH1 h0 h1 (seg := [v1]) (j := 0) (show 0 + 1 ≤ 1 from Nat.le_refl _) (x' := ys) (Kd.M_row hR) (fun _ hk => hk)).1
  rw [Nat.add_zero, show (Kd.slice 3 (Kd.int .i64)).sz = 1 from rfl, Nat.mul_one] at hP
  exact ⟨g1, g2, hP⟩

theorem kid_below {w1 wr wa : World} {row : Option Nat} (hb : Below w1.heap.size w1 wr) (hg : wr.grownBy wa row) (hr : ∀ k, row = some k → w1.heap.size ≤ k) {g : Nat} (hgl : w1.heap.size ≤ g) (o : Nat) (v : Value) : Below w1.heap.size w1 (wa.setCell ⟨g, o, none⟩ v) :=
  hb.trans ((((Kp.refl (fun k => w1.heap.size ≤ k) wr).grown hg (fun k hk => .inl (hr k hk))).setCell (p := ⟨g, o, none⟩) (.inl hgl) v).belowB (fun k hk => hk) hb.size)
/-- What Children hands back, in plain lists. -/
def kidsU (l : List Int) (i : Nat) (b : Int) : List Int := ((List.range i).filter fun (j : Nat) => decide (rd l (j : Int) = b ∧ b ≠ (j : Int))).map fun (j : Nat) => (j : Int)
def kidsL (l : List Int) : List (List Int) := (nodes (List.replicate l.length [])).map (kidsU l l.length)
structure KV (l : List Int) (o : List (List Int)) (i : Nat) : Prop where
  len : o.length = l.length
  at_ : ∀ b, idx l b → rd_L1 o b = kidsU l i b
theorem kidsU_succ (l : List Int) (i : Nat) (b : Int) : kidsU l (i + 1) b = kidsU l i b ++ if rd l (i : Int) = b ∧ b ≠ (i : Int) then [(i : Int)] else [] := by
  unfold kidsU
  rw [List.range_succ, List.filter_append, List.map_append]
  by_cases h : rd l (i : Int) = b ∧ b ≠ (i : Int)
  · rw [if_pos h, List.filter_cons, if_pos (by simpa using h)]; rfl
  · rw [if_neg h, List.filter_cons, if_neg (by simpa using h)]; rfl
theorem kidsU_len (l : List Int) (i : Nat) (b : Int) : (kidsU l i b).length ≤ i := by
  unfold kidsU
  rw [List.length_map]
  have := List.length_filter_le (fun (j : Nat) => decide (rd l (j : Int) = b ∧ b ≠ (j : Int))) (List.range i)
  rwa [List.length_range] at this
theorem KV.start (l : List Int) : KV l (List.replicate l.length []) 0 := by
  refine ⟨List.length_replicate, fun b hb => ?_⟩
  have e : b = (b.toNat : Int) := (Int.toNat_of_nonneg hb.1).symm
  have := hb.2
  rw [e, rd1_get _ b.toNat (by rw [List.length_replicate]; omega), List.getElem_replicate]
  rfl
theorem KV.skip {l : List Int} {o : List (List Int)} {i : Nat} (h : KV l o i) (hn : rd l (i : Int) < 0 ∨ rd l (i : Int) = (i : Int)) : KV l o (i + 1) := by
  refine ⟨h.len, fun b hb => ?_⟩
  rw [h.at_ b hb, kidsU_succ, if_neg (by rintro ⟨h1, h2⟩; have := hb.1; rcases hn with h3 | h3 <;> omega), List.append_nil]
theorem KV.put {l : List Int} {o : List (List Int)} {i : Nat} (h : KV l o i) (hp : idx l (rd l (i : Int))) (hn : rd l (i : Int) ≠ (i : Int)) : KV l (o.set (rd l (i : Int)).toNat (rd_L1 o (rd l (i : Int)) ++ [(i : Int)])) (i + 1) := by
  refine ⟨by rw [List.length_set]; exact h.len, fun b hb => ?_⟩
  rw [rd1_set o _ hp.1 (by rw [h.len]; exact hp.2) _ b hb.1, kidsU_succ]
  by_cases e : b = rd l (i : Int)
  · rw [if_pos e, if_pos ⟨e.symm, by omega⟩, ← h.at_ b hb, e]
  · rw [if_neg e, if_neg (fun h1 => e h1.1.symm), List.append_nil, h.at_ b hb]
theorem KV.last {l : List Int} {o : List (List Int)} (h : KV l o l.length) : o = kidsL l := by
  unfold kidsL
  refine tab_ext (by rw [List.length_replicate]; exact h.len) fun b hb => ?_
  unfold isNode at hb
  rw [List.length_replicate] at hb
  exact h.at_ b hb
theorem kids_len (l : List Int) : (kidsL l).length = l.length := by unfold kidsL; rw [List.length_map, nodes_len, List.length_replicate]

/-- What Children answers. -/
def KQ (l : List Int) (w : World) (e : Ending) (w' : World) : Prop := ∃ v o, e = .returned v ∧ Kd.S kG 28 w' 0 (fun k => w.heap.size ≤ k) v o ∧ ((Tree l ∧ o = kidsL l) ∨ (¬ Tree l ∧ o = [])) ∧ Below w.heap.size w w'

set_option maxRecDepth 100000 in
set_option maxHeartbeats 2000000 in
theorem children_any (A : Option Addr) (c : Nat) (l : List Int) (w : World) (hC : Kd.C (Kd.int .i64) w A l.length l) (hc : l.length ≤ c) (hl : l.length ≤ 70) :
    Calls Try.prog 28 #[.slice A l.length c] w (KQ l w) := by
  have hX := Aside0.mk (And.intro hC (And.intro hc hl))
  clear hC hc hl
  go_enter Try.func28, Try.ntmps28
  go_wp2_with fail
  refine (depths_any A c l _ hX.out.1 hX.out.2.1 hX.out.2.2).mono ?_
  rintro e' w1 ⟨v, bo, rfl, hyes, hno, B1⟩
  cases bo
  · have hF : Aside0 (KQ l w (.returned (.slice none 0 0)) w1) := ⟨_, [], rfl, Kd.S_nil _ _ _ _ _, .inr ⟨hno rfl, rfl⟩, B1⟩
    clear hyes hno B1
    go_wp2
    go_ret
    exact hF.out
  · have hT := Aside0.mk (And.intro (hyes rfl).1 B1)
    clear hyes hno B1
    go_wp2_with (at_make; refine Kd.S_make kG (w0 := w1) 0 28 (by rfl) (N := 17) (by rfl) 22 (.tmp 16) (.tmp 16) (by rfl) (l.length : Int) (by rfl) (by rfl) Try.underlying22 (.slice none 0 0) 24 info28 rfl (by decide) (by decide) [] (ok := fun k => w1.heap.size ≤ k) (okp := fun _ => False) ⟨_, rfl, Kd.R_nil _ _ _ _ _⟩ (fun _ h => h.elim) (Nat.le_refl _) (by omega) (by have := hX.out.2.2; omega) ((Kp.refl (fun _ => False) w1).belowB (fun _ h => h.elim) (Nat.zero_le _)) (Nat.zero_le _) ?_; intro v7 w7 hRA hBA hgA hatA; rw [Int.toNat_natCast] at hRA; have hb7 : Below w1.heap.size w1 w7 := ((Kp.refl (fun _ => False) w1).grown hgA (fun k hk => by cases hk)).none_below; obtain ⟨B, cb, ev, hx, Cx⟩ := Kd.S_reads hRA; rw [List.length_replicate] at ev; subst ev; clear hx Cx; have hI0 : Aside0 (Kd.S kG 28 w7 0 (fun k => w1.heap.size ≤ k) (.slice B l.length cb) (List.replicate l.length []) ∧ Below w1.heap.size w1 w7 ∧ KV l (List.replicate l.length []) 0) := ⟨hRA, hb7, KV.start l⟩; clear hRA hBA hgA hatA hb7)
    go_loopg [20] l.length (fun q v wi => ∃ (i : Nat) (o : List (List Int)), i + q = l.length ∧ v = .int .i64 (i : Int) ∧ Aside0 (Kd.S kG 28 wi 0 (fun k => w1.heap.size ≤ k) (.slice B l.length cb) o ∧ Below w1.heap.size w1 wi ∧ KV l o i))
    case atStart => exact ⟨0, _, by omega, rfl, hI0⟩
    case round =>
      obtain ⟨i, o, hi, rfl, hJ⟩ := hrel
      clear hI0
      by_cases hlt : i < l.length
      · have hlti : (i : Int) < l.length := by omega
        obtain ⟨gk1, rfl⟩ : ∃ q, gk = q + 1 := ⟨gk - 1, by omega⟩
        have hi1 : i + 1 + gk1 = l.length := by omega
        have hgk1 : gk1 < gk1 + 1 := by omega
        have hl70 : l.length ≤ 70 := hX.out.2.2
        obtain ⟨ad, eA, x0⟩ := Kd.at_int (Kd.C_below (Kd.C_below hX.out.1 hT.out.2) hJ.out.2.1) (i : Int) (by omega) hlti
        subst eA
        rw [Int.toNat_natCast] at x0
        have hrg := hT.out.1.rng (i : Int) ⟨by omega, hlti⟩
        by_cases hskip : rd l (i : Int) < 0 ∨ rd l (i : Int) = (i : Int)
        · have hI : Aside0 (Kd.S kG 28 wr 0 (fun k => w1.heap.size ≤ k) (.slice B l.length cb) o ∧ Below w1.heap.size w1 wr ∧ KV l o (i + 1)) := ⟨hJ.out.1, hJ.out.2.1, hJ.out.2.2.skip hskip⟩
          obtain ⟨p, hp⟩ : ∃ p, rd l (i : Int) = p := ⟨_, rfl⟩
          rw [hp] at x0 hskip
          clear hJ hrg hp
          by_cases hneg : p < 0
          · clear hskip
            go_wp2_with fail
            go_roundg gk1
            case rel => exact ⟨i + 1, o, hi1, by go_num, hI⟩
            case measure => exact hgk1
          · have hpi : p = (i : Int) := by omega
            subst hpi
            have e1 : ((i : Int) != (i : Int)) = false := by simp
            clear hskip
            go_wp2_with fail
            go_roundg gk1
            case rel => exact ⟨i + 1, o, hi1, by go_num, hI⟩
            case measure => exact hgk1
        · have hpi : idx l (rd l (i : Int)) := ⟨by omega, hrg.2⟩
          obtain ⟨g, cap', ev, _⟩ := Kd.S_form hJ.out.1 (by rw [hJ.out.2.2.len]; omega)
          injection ev with e1 e2 e3
          subst e1
          clear e2 e3
          have hgl : Aside0 (w1.heap.size ≤ g) := ⟨(Kd.S_R hJ.out.1).1 g rfl⟩
          obtain ⟨A0, c0, oki, k1, k2, k3, k4, k5⟩ := kid_open hJ.out.1 (rd l (i : Int)) hpi.1 hpi.2
          have hrl : (rd_L1 o (rd l (i : Int))).length ≤ 70 := by rw [hJ.out.2.2.at_ _ hpi]; have := kidsU_len l i (rd l (i : Int)); omega
          have hput := hJ.out.2.2.put hpi (by omega)
          obtain ⟨p, hp⟩ : ∃ p, rd l (i : Int) = p := ⟨_, rfl⟩
          rw [hp] at x0 hskip k1 k2 k3 k5 hrl hput hpi
          have p0 := hpi.1
          have p1 : p < (l.length : Int) := hpi.2
          have e1 : (p != (i : Int)) = true := by simp; omega
          obtain ⟨row, hrow⟩ : ∃ row, rd_L1 o p = row := ⟨_, rfl⟩
          rw [hrow] at k1 k3 k5 hrl hput
          have hM := Aside0.mk (And.intro k3 (And.intro k4 (And.intro k5 (And.intro hput hJ.out.2.1))))
          clear k3 k4 k5 hput hJ hrg hp hskip hpi hrow
          go_wp2_with (at_builtin; refine Kd.R_append (Kd.int .i64) (w0 := wr) 0 (by rfl) (.tmp 37) (.tmp 39) 28 3 (.int .i64 0) 8 (by rfl) Try.underlying28 info3 rfl (by decide) (by decide) (.slice A0 row.length c0) row (i : Int) [.int .i64 (i : Int)] (fun k => oki k ∨ w1.heap.size ≤ k ∧ wr.heap.size ≤ k) (fun _ => False) (by rfl) (by rfl) (by rfl) (fun _ h => h.elim) (fun k hk => .inr ⟨by have := hM.out.2.2.2.2.size; omega, hk⟩) (Kd.R_mono hM.out.1 (fun k hk => .inl hk)) ((Kp.refl (fun _ => False) wr).belowB (fun _ h => h.elim) (Nat.zero_le _)) (Nat.zero_le _) (by omega) ?_; intro v1 wa hRA hBA hgA hatA; obtain ⟨z1, z2, z3⟩ := hM.out.2.2.1 wa v1 _ hgA hRA; obtain ⟨A1, c1, ev, _, _⟩ := Kd.R_reads hRA; rw [List.length_append, List.length_singleton] at ev; subst ev; have hK : Below w1.heap.size w1 (wa.setCell ⟨g, p.toNat, none⟩ (.slice A1 (row.length + 1) c1)) := kid_below hM.out.2.2.2.2 hgA (fun k hk => (hM.out.2.1 k (hM.out.1.1 k hk)).1) hgl.out _ _; have hI := Aside0.mk (And.intro z3 (And.intro hK hM.out.2.2.2.1)); clear hRA hBA hgA hatA z3 hK)
          go_roundg gk1
          case rel => exact ⟨i + 1, _, hi1, by go_num, hI⟩
          case measure => exact hgk1
      · have hil : i = l.length := by omega
        have hF : Aside0 (KQ l w (.returned (.slice B l.length cb)) wr) := ⟨_, o, rfl, Kd.S_mono hJ.out.1 (fun k hk => by have := hT.out.2.size; omega), .inl ⟨hT.out.1, by have := hJ.out.2.2; rw [hil] at this; exact this.last⟩, hT.out.2.trans (hJ.out.2.1.mono hT.out.2.size)⟩
        clear hJ hil
        go_wp2
        go_ret
        exact hF.out
end Go.Proofs.Ytbphjbfnnhfhlaa
end

section
/- Preorder: plain lists and the inner visit. -/
set_option linter.unusedVariables false
set_option linter.unusedSimpArgs false
set_option linter.unusedSectionVars false
namespace Go.Proofs.Ytbphjbfnnhfhlaa
open Go.RowKit Go.Proofs.YtbphjbfnnhfhlaaW.PrintWords Go.Proofs.Ytbphjbfnnhfhlaa.PDigraphTells Mem

def preF (l : List Int) : Nat → Int → List Int
  | 0, x => [x]
  | f + 1, x => x :: (kidsU l l.length x).flatMap (preF l f)
theorem mem_kids {l : List Int} {x y : Int} : y ∈ kidsU l l.length x ↔ idx l y ∧ rd l y = x ∧ y ≠ x := by
  unfold kidsU idx
  rw [List.mem_map]
  constructor
  · rintro ⟨j, hj, rfl⟩
    rw [List.mem_filter, List.mem_range] at hj
    have h2 := of_decide_eq_true hj.2
    exact ⟨⟨by omega, by omega⟩, h2.1, fun e => h2.2 e.symm⟩
  · rintro ⟨⟨h0, h1⟩, h2, h3⟩
    have e : y = (y.toNat : Int) := (Int.toNat_of_nonneg h0).symm
    refine ⟨y.toNat, List.mem_filter.2 ⟨List.mem_range.2 (by omega), decide_eq_true ⟨by rw [← e]; exact h2, by rw [← e]; exact fun e2 => h3 e2.symm⟩⟩, e.symm⟩
theorem kids_nd (l : List Int) (x : Int) : (kidsU l l.length x).Nodup := by
  unfold kidsU
  have h : ((List.range l.length).filter fun (j : Nat) => decide (rd l (j : Int) = x ∧ x ≠ (j : Int))).Nodup := List.Pairwise.filter _ List.nodup_range
  exact List.pairwise_map.2 (h.imp (fun h1 h2 => h1 (by omega)))
theorem kid_up {l : List Int} {x y : Int} {k : Nat} (h : Up l x k) (hy : y ∈ kidsU l l.length x) : Up l y (k + 1) := by
  obtain ⟨h1, h2, h3⟩ := mem_kids.1 hy
  exact .step h1 (by rw [h2]; exact Ne.symm h3) (by rw [h2]; exact h)
theorem on_split {l : List Int} {x y : Int} (h : On l x y) : y = x ∨ ∃ c, c ∈ kidsU l l.length x ∧ On l c y := by
  induction h with
  | refl => exact .inl rfl
  | @step y hi e u ih =>
    right
    rcases ih with ih | ⟨c, h1, h2⟩
    · exact ⟨y, mem_kids.2 ⟨hi, ih, fun e2 => e (by rw [ih, e2])⟩, .refl⟩
    · exact ⟨c, h1, .step hi e h2⟩
theorem on_kid {l : List Int} {x c y : Int} (hc : c ∈ kidsU l l.length x) (h : On l c y) : On l x y := by
  obtain ⟨h1, h2, h3⟩ := mem_kids.1 hc
  induction h with
  | refl => exact .step h1 (by rw [h2]; exact Ne.symm h3) (by rw [h2]; exact .refl)
  | step hi e _ ih => exact .step hi e ih
theorem mem_preF {l : List Int} : ∀ (f : Nat) (x : Int) (k : Nat), Up l x k → l.length ≤ k + 1 + f → ∀ y, y ∈ preF l f x ↔ On l x y := by
  intro f
  induction f with
  | zero =>
    intro x k hu hn y
    rw [preF, List.mem_singleton]
    constructor
    · rintro rfl; exact .refl
    · intro h
      rcases on_split h with h1 | ⟨c, h1, _⟩
      · exact h1
      · have := (kid_up hu h1).lt
        omega
  | succ f ih =>
    intro x k hu hn y
    rw [preF, List.mem_cons, List.mem_flatMap]
    constructor
    · rintro (rfl | ⟨c, h1, h2⟩)
      · exact .refl
      · exact on_kid h1 ((ih c (k + 1) (kid_up hu h1) (by omega) y).1 h2)
    · intro h
      rcases on_split h with h1 | ⟨c, h1, h2⟩
      · exact .inl h1
      · exact .inr ⟨c, h1, (ih c (k + 1) (kid_up hu h1) (by omega) y).2 h2⟩
theorem on_same {l : List Int} {a b y : Int} {k m : Nat} (hy : Up l y m) (ha : On l a y) (hb : On l b y) (ua : Up l a k) (ub : Up l b k) : a = b := by
  induction ha generalizing m b with
  | refl =>
    cases hb with
    | refl => rfl
    | step h e u =>
      obtain ⟨j, rfl, u2⟩ := hy.pred e
      obtain ⟨i, hi, u3⟩ := u2.on u
      have h1 := ub.uniq u3
      have h2 := ua.uniq hy
      omega
  | step h e u ih =>
    obtain ⟨j, rfl, u2⟩ := hy.pred e
    cases hb with
    | refl =>
      obtain ⟨i, hi, u3⟩ := u2.on u
      have h1 := ua.uniq u3
      have h2 := ub.uniq hy
      omega
    | step _ _ u4 => exact ih u2 u4 ub
theorem nd_flat {α β : Type} (g : α → List β) : ∀ L : List α, L.Nodup → (∀ a ∈ L, (g a).Nodup) → (∀ a ∈ L, ∀ b ∈ L, ∀ y, y ∈ g a → y ∈ g b → a = b) → (L.flatMap g).Nodup
  | [], _, _, _ => by simp
  | a :: L, h1, h2, h3 => by
    rw [List.flatMap_cons, List.nodup_append]
    rw [List.nodup_cons] at h1
    refine ⟨h2 a List.mem_cons_self, nd_flat g L h1.2 (fun b hb => h2 b (List.mem_cons_of_mem _ hb)) (fun b hb c hc => h3 b (List.mem_cons_of_mem _ hb) c (List.mem_cons_of_mem _ hc)), fun y hy z hz e => ?_⟩
    subst e
    obtain ⟨b, hb, hyb⟩ := List.mem_flatMap.1 hz
    have := h3 a List.mem_cons_self b (List.mem_cons_of_mem _ hb) y hy hyb
    subst this
    exact h1.1 hb
theorem on_up {l : List Int} {x y : Int} {k : Nat} (hx : Up l x k) (h : On l x y) : ∃ m, k ≤ m ∧ Up l y m := by
  induction h with
  | refl => exact ⟨k, Nat.le_refl _, hx⟩
  | step h e _ ih =>
    obtain ⟨m, hm, u⟩ := ih
    exact ⟨m + 1, by omega, .step h e u⟩
theorem nd_preF {l : List Int} : ∀ (f : Nat) (x : Int) (k : Nat), Up l x k → l.length ≤ k + 1 + f → (preF l f x).Nodup := by
  intro f
  induction f with
  | zero => intro x k _ _; rw [preF]; simp
  | succ f ih =>
    intro x k hu hn
    rw [preF, List.nodup_cons]
    refine ⟨fun hm => ?_, nd_flat _ _ (kids_nd l x) (fun c hc => ih c (k + 1) (kid_up hu hc) (by omega)) (fun a ha b hb y hya hyb => ?_)⟩
    · obtain ⟨c, hc, hx⟩ := List.mem_flatMap.1 hm
      have hcu := kid_up hu hc
      obtain ⟨m, hm2, u⟩ := on_up hcu ((mem_preF f c (k + 1) hcu (by omega) x).1 hx)
      have := hu.uniq u
      omega
    · have hau := kid_up hu ha
      have hbu := kid_up hu hb
      have h1 := (mem_preF f a (k + 1) hau (by omega) y).1 hya
      have h2 := (mem_preF f b (k + 1) hbu (by omega) y).1 hyb
      obtain ⟨m, _, u⟩ := on_up hau h1
      exact on_same u h1 h2 hau hbu
theorem len_preF {l : List Int} (f : Nat) (x : Int) (k : Nat) (hu : Up l x k) (hn : l.length ≤ k + 1 + f) : (preF l f x).length ≤ l.length := by
  have := nodup_len (preF l f x) (nodes (List.replicate l.length [])) (nd_preF f x k hu hn) (fun y hy => (mem_nodes _ y).2 (by
    obtain ⟨m, _, u⟩ := on_up hu ((mem_preF f x k hu hn y).1 hy)
    have := u.idx
    unfold idx at this
    unfold isNode
    rw [List.length_replicate]
    exact this))
  rwa [nodes_len, List.length_replicate] at this

/-- Preorder's variables in memory. -/
structure Pw (w wK wi : World) (bo bk bv : Nat) (B : Option Addr) (n cb : Nat) (kids : List (List Int)) (Ao : Option Addr) (co : Nat) (out : List Int) : Prop where
  b : Below w.heap.size w wi
  bK : Below wK.heap.size wK wi
  C : Kd.C kG wK B n kids
  ho : wi.heap[bo]? = some (.cells #[.slice Ao out.length co] 28 (0, 0))
  hk : wi.heap[bk]? = some (.cells #[.slice B n cb] 22 (0, 0))
  hv : wi.heap[bv]? = some (.cells #[.func (.func 37) #[] #[.pointer (some ⟨bo, 0, none⟩), .pointer (some ⟨bk, 0, none⟩), .pointer (some ⟨bv, 0, none⟩)]] 51 (0, 0))
  R : Kd.R (Kd.int .i64) 3 wi 0 (fun k => wK.heap.size ≤ k ∧ k ≠ bo ∧ k ≠ bk ∧ k ≠ bv) (.slice Ao out.length co) out
  o1 : w.heap.size ≤ wK.heap.size
  o2 : wK.heap.size ≤ bo
  o5 : bo ≠ bk
  o6 : bo ≠ bv
section
variable {w wK wi wj : World} {bo bk bv : Nat} {B : Option Addr} {n cb : Nat} {kids : List (List Int)} {Ao : Option Addr} {co : Nat} {out : List Int} (h : Pw w wK wi bo bk bv B n cb kids Ao co out)
include h
theorem Pw.app {wa : World} {A1 : Option Addr} {c1 : Nat} {out' : List Int} (hg : wi.grownBy wa (Value.slice Ao out.length co).ownBlock) (hR : Kd.R (Kd.int .i64) 3 wa 0 (fun k => wK.heap.size ≤ k ∧ k ≠ bo ∧ k ≠ bk ∧ k ≠ bv) (.slice A1 out'.length c1) out') :
    wa.cell? ⟨bo, 0, none⟩ = some (.slice Ao out.length co) ∧ wa.frozen? ⟨bo, 0, none⟩ = false ∧ Pw w wK (wa.setCell ⟨bo, 0, none⟩ (.slice A1 out'.length c1)) bo bk bv B n cb kids A1 c1 out' := by
  have h1 := h.o1; have h2 := h.o2; have h5 := h.o5; have h6 := h.o6
  have hrow := fun k (hk : (Value.slice Ao out.length co).ownBlock = some k) => h.R.1 k hk
  have hKA : Kp (fun k => wK.heap.size ≤ k ∧ k ≠ bo ∧ k ≠ bk ∧ k ≠ bv) wi wa := (Kp.refl _ wi).grown hg (fun k hk => .inl (hrow k hk))
  have hoa := hKA.blk h.ho (by omega)
  have hK2 : Kp (fun k => wK.heap.size ≤ k ∧ k ≠ bk ∧ k ≠ bv) wi (wa.setCell ⟨bo, 0, none⟩ (.slice A1 out'.length c1)) := (hKA.mono (fun k hk => ⟨hk.1, hk.2.2⟩)).setCell (p := ⟨bo, 0, none⟩) (.inl ⟨h2, h5, h6⟩) _
  refine ⟨cell_at hoa rfl, free_at hoa 0, h.b.trans (hK2.belowB (fun k hk => by omega) h.b.size), h.bK.trans (hK2.belowB (fun k hk => hk.1) h.bK.size), h.C, ?_, hK2.blk h.hk (by omega), hK2.blk h.hv (by omega), Kd.R_step hR (fun k hk _ => Below.heap_setCell wa ⟨bo, 0, none⟩ _ k (fun e => hk.2.1 e)), h1, h2, h5, h6⟩
  have := set_at (j := 0) hoa (.slice A1 out'.length c1)
  simpa using this
theorem Pw.co_ : wi.cell? ⟨bo, 0, none⟩ = some (.slice Ao out.length co) := cell_at h.ho rfl
theorem Pw.ck_ : wi.cell? ⟨bk, 0, none⟩ = some (.slice B n cb) := cell_at h.hk rfl
theorem Pw.cv_ : wi.cell? ⟨bv, 0, none⟩ = some (.func (.func 37) #[] #[.pointer (some ⟨bo, 0, none⟩), .pointer (some ⟨bk, 0, none⟩), .pointer (some ⟨bv, 0, none⟩)]) := cell_at h.hv rfl
theorem Pw.kd {x : Int} (h0 : 0 ≤ x) (h1 : x < n) : ∃ ad A0 c0, B = some ad ∧ wi.cell? (ad.add x.toNat) = some (.slice A0 (rd_L1 kids x).length c0) ∧ (rd_L1 kids x).length ≤ c0 ∧ Kd.C (Kd.int .i64) wi A0 (rd_L1 kids x).length (rd_L1 kids x) := at_L1 (Kd.C_below h.C h.bK) x h0 h1
end
theorem kids_at (l : List Int) {x : Int} (h : idx l x) : rd_L1 (kidsL l) x = kidsU l l.length x := by
  unfold idx at h
  have e : x = (x.toNat : Int) := (Int.toNat_of_nonneg h.1).symm
  rw [e, rd1_get _ x.toNat (by rw [kids_len]; omega)]
  unfold kidsL nodes
  simp only [List.getElem_map, List.getElem_range]
/-- What a visit leaves. -/
def PQ (w wK : World) (bo bk bv : Nat) (B : Option Addr) (n cb : Nat) (kids : List (List Int)) (out : List Int) (e : Ending) (w' : World) : Prop := e = .returned (.tuple #[]) ∧ ∃ Ao co, Pw w wK w' bo bk bv B n cb kids Ao co out

set_option maxRecDepth 100000 in
set_option maxHeartbeats 2000000 in
theorem pre_step (w wK : World) (bo bk bv : Nat) (B : Option Addr) (cb : Nat) (l : List Int) (hl : l.length ≤ 70) (x : Int) (hx : idx l x) (sub : Int → List Int) (wi : World) (Ao : Option Addr) (co : Nat) (out : List Int)
    (hsub : ∀ c, c ∈ kidsU l l.length x → ∀ (wi : World) (Ao : Option Addr) (co : Nat) (out : List Int), out.length + (sub c).length ≤ 1000000 → Pw w wK wi bo bk bv B l.length cb (kidsL l) Ao co out →
      Calls Try.prog 37 #[.int .i64 c, .pointer (some ⟨bo, 0, none⟩), .pointer (some ⟨bk, 0, none⟩), .pointer (some ⟨bv, 0, none⟩)] wi (PQ w wK bo bk bv B l.length cb (kidsL l) (out ++ sub c)))
    (hm : out.length + (x :: (kidsU l l.length x).flatMap sub).length ≤ 1000000) (hP : Pw w wK wi bo bk bv B l.length cb (kidsL l) Ao co out) :
    Calls Try.prog 37 #[.int .i64 x, .pointer (some ⟨bo, 0, none⟩), .pointer (some ⟨bk, 0, none⟩), .pointer (some ⟨bv, 0, none⟩)] wi (PQ w wK bo bk bv B l.length cb (kidsL l) (out ++ x :: (kidsU l l.length x).flatMap sub)) := by
  have x0 := hx.1
  have x1 : x < (l.length : Int) := hx.2
  have q1 := hP.co_
  have hol : out.length ≤ 1000000 := by omega
  have hlt1 := blk_lt' hP.ho
  have hlt2 := blk_lt' hP.hk
  have hlt3 := blk_lt' hP.hv
  have hsz := hP.bK.size
  obtain ⟨ad, A0, c0, eB, y5, y6, y7⟩ := at_L1 hP.C x x0 x1
  subst eB
  obtain ⟨row, hrow⟩ : ∃ row, kidsU l l.length x = row := ⟨_, rfl⟩
  rw [kids_at l hx, hrow] at y5 y6 y7
  have hrl : row.length ≤ 70 := by rw [← hrow]; have := kidsU_len l l.length x; omega
  rw [hrow] at hsub hm ⊢
  have hX := Aside0.mk (And.intro hx (And.intro hsub (And.intro hm hP)))
  have hY := Aside0.mk (And.intro y5 y7)
  clear hsub hm hP hx y5 y6 y7 hrow
  go_enter Try.func37, Try.ntmps37
  go_wp2_with (at_builtin; refine Kd.R_append (Kd.int .i64) (w0 := wi) 0 (by rfl) (.tmp 7) (.tmp 9) 28 3 (.int .i64 0) 8 (by rfl) Try.underlying28 info3 rfl (by decide) (by decide) (.slice Ao out.length co) out x [.int .i64 x] (fun k => wK.heap.size ≤ k ∧ k ≠ bo ∧ k ≠ bk ∧ k ≠ bv) (fun _ => False) (by rfl) (by rfl) (by rfl) (fun _ h => h.elim) (fun k hk => ⟨by omega, by omega, by omega, by omega⟩) hX.out.2.2.2.R ((Kp.refl (fun _ => False) wi).belowB (fun _ h => h.elim) (Nat.zero_le _)) (Nat.zero_le _) (by omega) ?_; intro v1 wa hRA hBA hgA hatA; obtain ⟨A1, c1, ev, _, _⟩ := Kd.R_reads hRA; subst ev; obtain ⟨z1, z2, z3⟩ := hX.out.2.2.2.app hgA hRA; rw [show (out ++ [x]).length = out.length + 1 from by rw [List.length_append]; rfl] at z3; have z4 := z3.ck_; have z5 := (z3.bK.cell (World.block_lt_of_cell? wK _ hY.out.1)).trans hY.out.1; have hI := Aside0.mk z3; clear hRA hBA hgA hatA z3)
  clear q1 z1 z2 z4 z5 hlt1 hlt2 hlt3 hsz hol
  go_loopg [16] row.length (fun q v wj => ∃ (j : Nat) (Ao : Option Addr) (co : Nat), j + q = row.length ∧ v = .int .i64 (j : Int) ∧ Aside0 (Pw w wK wj bo bk bv (some ad) l.length cb (kidsL l) Ao co (out ++ [x] ++ (row.take j).flatMap sub)))
  case atStart => exact ⟨0, A1, c1, by omega, rfl, ⟨by
    have h9 := hI.out
    simpa using h9⟩⟩
  case round =>
    obtain ⟨j, A2, c2, hj, rfl, hJ⟩ := hrel
    clear hI
    by_cases hltj : j < row.length
    · have hltji : (j : Int) < row.length := by omega
      obtain ⟨gk3, rfl⟩ : ∃ q, gk = q + 1 := ⟨gk - 1, by omega⟩
      have hj1 : j + 1 + gk3 = row.length := by omega
      have hgk3 : gk3 < gk3 + 1 := by omega
      obtain ⟨ar, eA, x0'⟩ := Kd.at_int (Kd.C_below hY.out.2 hJ.out.bK) (j : Int) (by omega) hltji
      rw [rd_get row j hltj, Int.toNat_natCast] at x0'
      subst eA
      have hsn : row.take (j + 1) = row.take j ++ [row[j]] := List.take_succ_eq_append_getElem hltj
      have hbnd : (out ++ [x] ++ (row.take j).flatMap sub).length + (sub row[j]).length ≤ 1000000 := by
        have h1 := hX.out.2.2.1
        have h2 : row = row.take (j + 1) ++ row.drop (j + 1) := (List.take_append_drop _ _).symm
        have h3 : (row.flatMap sub).length = ((row.take (j + 1)).flatMap sub).length + ((row.drop (j + 1)).flatMap sub).length := by
          rw [← List.length_append, ← List.flatMap_append, ← h2]
        rw [hsn, List.flatMap_append, List.length_append] at h3
        simp only [List.flatMap_cons, List.flatMap_nil, List.append_nil, List.length_append, List.length_cons, List.length_nil] at h1 h3 ⊢
        omega
      have hcall := hX.out.2.1 row[j] (List.getElem_mem hltj) wr A2 c2 _ hbnd hJ.out
      rw [show (out ++ [x] ++ (row.take j).flatMap sub) ++ sub row[j] = out ++ [x] ++ (row.take (j + 1)).flatMap sub by rw [hsn, List.flatMap_append, List.append_assoc]; simp] at hcall
      have hcall := Aside0.mk hcall
      obtain ⟨k, hk⟩ : ∃ k, k = row[j] := ⟨_, rfl⟩
      rw [← hk] at x0' hcall
      have q3 := hJ.out.cv_
      clear hk hsn hbnd hJ
      go_wp2_with fail
      refine hcall.out.mono ?_
      rintro e w9 ⟨rfl, A3, c3, hP3⟩
      have hI3 := Aside0.mk hP3
      clear hP3 hcall q3 x0'
      go_wp2_with fail
      go_roundg gk3
      case rel => exact ⟨j + 1, A3, c3, hj1, by go_num, hI3⟩
      case measure => exact hgk3
    · have hF : Aside0 (PQ w wK bo bk bv (some ad) l.length cb (kidsL l) (out ++ x :: row.flatMap sub) (.returned (.tuple #[])) wr) := ⟨rfl, A2, c2, by
        have h9 := hJ.out
        rw [List.take_of_length_le (by omega)] at h9
        simpa using h9⟩
      clear hJ
      go_wp2
      go_end0
      exact hF.out
theorem pre_visit (w wK : World) (bo bk bv : Nat) (B : Option Addr) (cb : Nat) (l : List Int) (hl : l.length ≤ 70) :
    ∀ (f : Nat) (x : Int) (k : Nat) (wi : World) (Ao : Option Addr) (co : Nat) (out : List Int), Up l x k → l.length ≤ k + 1 + f → out.length + (preF l f x).length ≤ 1000000 → Pw w wK wi bo bk bv B l.length cb (kidsL l) Ao co out →
    Calls Try.prog 37 #[.int .i64 x, .pointer (some ⟨bo, 0, none⟩), .pointer (some ⟨bk, 0, none⟩), .pointer (some ⟨bv, 0, none⟩)] wi (PQ w wK bo bk bv B l.length cb (kidsL l) (out ++ preF l f x)) := by
  intro f
  induction f with
  | zero =>
    intro x k wi Ao co out hu hn hm hP
    have hk0 : kidsU l l.length x = [] := by
      cases hks : kidsU l l.length x with
      | nil => rfl
      | cons c r => have := (kid_up hu (by rw [hks]; exact List.mem_cons_self)).lt; omega
    have h1 := pre_step w wK bo bk bv B cb l hl x hu.idx (fun _ => []) wi Ao co out (fun c hc => by rw [hk0] at hc; cases hc) (by rw [hk0]; rw [preF] at hm; simpa using hm) hP
    rw [hk0] at h1
    exact h1
  | succ f ih =>
    intro x k wi Ao co out hu hn hm hP
    exact pre_step w wK bo bk bv B cb l hl x hu.idx (preF l f) wi Ao co out (fun c hc wi Ao co out h1 h2 => ih c (k + 1) wi Ao co out (kid_up hu hc) (by omega) h1 h2) hm hP
end Go.Proofs.Ytbphjbfnnhfhlaa
end

section
/- Preorder. -/
set_option linter.unusedVariables false
set_option linter.unusedSimpArgs false
set_option linter.unusedSectionVars false
namespace Go.Proofs.Ytbphjbfnnhfhlaa
open Go.RowKit Go.Proofs.YtbphjbfnnhfhlaaW.PrintWords Go.Proofs.Ytbphjbfnnhfhlaa.PDigraphTells Mem

def preG (l : List Int) (i : Nat) : List Int := if rd l (i : Int) = (i : Int) then preF l (l.length - 1) (i : Int) else []
def preL (l : List Int) : List Int := (List.range l.length).flatMap (preG l)
theorem preG_len (l : List Int) (i : Nat) (h : i < l.length) : (preG l i).length ≤ l.length := by
  unfold preG
  split
  · rename_i e
    exact len_preF _ _ 0 (.root ⟨by omega, by omega⟩ e) (by omega)
  · simp
theorem preU_len (l : List Int) : ∀ i, i ≤ l.length → ((List.range i).flatMap (preG l)).length ≤ i * l.length := by
  intro i
  induction i with
  | zero => intro _; simp
  | succ i ih =>
    intro h
    have h1 := ih (by omega)
    have h2 := preG_len l i (by omega)
    rw [List.range_succ, List.flatMap_append, List.length_append, Nat.succ_mul]
    simp only [List.flatMap_cons, List.flatMap_nil, List.append_nil]
    omega
/-- What Preorder answers. -/
def OQ (l : List Int) (w : World) (e : Ending) (w' : World) : Prop := ∃ v o, e = .returned v ∧ Kd.R (Kd.int .i64) 3 w' 0 (fun k => w.heap.size ≤ k) v o ∧ ((Tree l ∧ o = preL l) ∨ (¬ Tree l ∧ o = [])) ∧ Below w.heap.size w w'

set_option maxRecDepth 100000 in
set_option maxHeartbeats 2000000 in
theorem preorder_any (A : Option Addr) (c : Nat) (l : List Int) (w : World) (hC : Kd.C (Kd.int .i64) w A l.length l) (hc : l.length ≤ c) (hl : l.length ≤ 70) :
    Calls Try.prog 17 #[.slice A l.length c] w (OQ l w) := by
  have hX := Aside0.mk (And.intro hC (And.intro hc hl))
  clear hC hc hl
  go_enter Try.func17, Try.ntmps17
  go_wp2_with fail
  refine (children_any A c l _ hX.out.1 hX.out.2.1 hX.out.2.2).mono ?_
  rintro e' w1 ⟨v, o, rfl, hS, hT, B1⟩
  obtain ⟨B, cb, ev, hx, Cx⟩ := Kd.S_reads hS
  subst ev
  have h1 := Aside0.mk (And.intro hT (And.intro B1 Cx))
  clear hS hT B1 Cx hx
  obtain ⟨X, hX1⟩ : ∃ X, X = ((w1.alloc (.cells #[.slice B o.length cb] 22 (0, 0))).alloc (.cells #[.slice none 0 0] 28 (0, 0))) := ⟨_, rfl⟩
  have hsz : X.heap.size = w1.heap.size + 1 + 1 := by rw [hX1]; simp
  have hnw := heap_alloc_new X (.cells #[.nilFunc] 51 (0, 0))
  rw [hsz] at hnw
  have q1 : (X.alloc (.cells #[.nilFunc] 51 (0, 0))).cell? ⟨w1.heap.size + 1 + 1, 0, none⟩ = some .nilFunc := cell_at hnw rfl
  have q2 : (X.alloc (.cells #[.nilFunc] 51 (0, 0))).frozen? ⟨w1.heap.size + 1 + 1, 0, none⟩ = false := free_at hnw 0
  rw [hX1] at q1 q2
  clear hnw
  go_upto_region 5 with (fail)
  clear q1 q2
  obtain ⟨bk, hbk⟩ : ∃ bk, bk = w1.heap.size := ⟨_, rfl⟩
  obtain ⟨bo, hbo⟩ : ∃ bo, bo = w1.heap.size + 1 := ⟨_, rfl⟩
  obtain ⟨bv, hbv⟩ : ∃ bv, bv = w1.heap.size + 1 + 1 := ⟨_, rfl⟩
  rw [← hbv, ← hbo, ← hbk, ← hX1]
  obtain ⟨w3, hw3⟩ : ∃ w3, w3 = X.alloc (.cells #[.func (.func 37) #[] #[.pointer (some ⟨bo, 0, none⟩), .pointer (some ⟨bk, 0, none⟩), .pointer (some ⟨bv, 0, none⟩)]] 51 (0, 0)) := ⟨_, rfl⟩
  rw [← hw3]
  have hP0 : Aside0 (Pw w w1 w3 bo bk bv B o.length cb o none 0 []) := ⟨by
    have hnw := heap_alloc_new X (.cells #[.func (.func 37) #[] #[.pointer (some ⟨bo, 0, none⟩), .pointer (some ⟨bk, 0, none⟩), .pointer (some ⟨bv, 0, none⟩)]] 51 (0, 0))
    have b13 : Below w1.heap.size w1 w3 := by rw [hw3, hX1]; exact below_alloc (below_alloc (below_alloc (Below.refl _ _) _) _) _
    have bX3 : Below X.heap.size X w3 := by rw [hw3]; exact below_alloc (Below.refl _ _) _
    have s1 := h1.out.2.1.size
    refine ⟨h1.out.2.1.trans (b13.mono s1), b13, h1.out.2.2, ?_, ?_, ?_, Kd.R_nil _ _ _ _ _, s1, by omega, by omega, by omega⟩
    · refine (bX3.block _ (by omega)).trans ?_
      rw [hX1, hbo]
      have h9 := heap_alloc_new (w1.alloc (.cells #[.slice B o.length cb] 22 (0, 0))) (.cells #[.slice none 0 0] 28 (0, 0))
      rw [World.size_alloc] at h9
      exact h9
    · refine (bX3.block _ (by omega)).trans ?_
      rw [hX1, hbk]
      exact ((below_alloc (Below.refl _ (w1.alloc _)) _).block _ (by simp)).trans (heap_alloc_new w1 _)
    · rw [hw3, hbv, ← hsz]
      rw [← hbv.trans hsz.symm]
      rw [hsz, ← hbv] at hnw
      exact hnw⟩
  clear hX1 hsz hbk hbo hbv hw3
  rcases h1.out.1 with ⟨hT, ho⟩ | ⟨hT, ho⟩
  · subst ho
    rw [kids_len] at hP0 ⊢
    have hT' := Aside0.mk hT
    have g1 := hP0.out.ck_
    have hI0 : Aside0 (Pw w w1 w3 bo bk bv B l.length cb (kidsL l) none 0 ((List.range 0).flatMap (preG l))) := ⟨hP0.out⟩
    clear hT hP0
    go_wp2_with fail
    clear g1
    go_loopg [12] l.length (fun q v wi => ∃ (i : Nat) (Ao : Option Addr) (co : Nat), i + q = l.length ∧ v = .int .i64 (i : Int) ∧ Aside0 (Pw w w1 wi bo bk bv B l.length cb (kidsL l) Ao co ((List.range i).flatMap (preG l))))
    case atStart => exact ⟨0, none, 0, by omega, rfl, hI0⟩
    case round =>
      obtain ⟨i, Ao, co, hi, rfl, hJ⟩ := hrel
      clear hI0
      by_cases hlt : i < l.length
      · have hlti : (i : Int) < l.length := by omega
        obtain ⟨gk1, rfl⟩ : ∃ q, gk = q + 1 := ⟨gk - 1, by omega⟩
        have hi1 : i + 1 + gk1 = l.length := by omega
        have hgk1 : gk1 < gk1 + 1 := by omega
        have hl70 : l.length ≤ 70 := hX.out.2.2
        obtain ⟨ad, eA, x0⟩ := Kd.at_int (Kd.C_below hX.out.1 hJ.out.b) (i : Int) (by omega) hlti
        subst eA
        rw [Int.toNat_natCast] at x0
        have hsn : (List.range (i + 1)).flatMap (preG l) = (List.range i).flatMap (preG l) ++ preG l i := by rw [List.range_succ, List.flatMap_append]; simp
        by_cases hroot : rd l (i : Int) = (i : Int)
        · have hul := preU_len l i (by omega)
          have hmul : i * l.length ≤ 70 * 70 := Nat.mul_le_mul (by omega) hl70
          have hgl := preG_len l i hlt
          have hgi : preG l i = preF l (l.length - 1) (i : Int) := by unfold preG; rw [if_pos hroot]
          have hcall := pre_visit w w1 bo bk bv B cb l hl70 (l.length - 1) (i : Int) 0 wr Ao co _ (.root ⟨by omega, hlti⟩ hroot) (by omega) (by rw [← hgi]; omega) hJ.out
          rw [← hgi, ← hsn] at hcall
          have hcall := Aside0.mk hcall
          rw [hroot] at x0
          have q3 := hJ.out.cv_
          have e1 : ((i : Int) == (i : Int)) = true := by simp
          clear hsn hul hmul hgl hgi hroot hJ
          go_wp2_with fail
          refine hcall.out.mono ?_
          rintro e w9 ⟨rfl, A3, c3, hP3⟩
          have hI3 := Aside0.mk hP3
          clear hP3 hcall q3 x0
          go_wp2_with fail
          go_roundg gk1
          case rel => exact ⟨i + 1, A3, c3, hi1, by go_num, hI3⟩
          case measure => exact hgk1
        · have hI3 : Aside0 (Pw w w1 wr bo bk bv B l.length cb (kidsL l) Ao co ((List.range (i + 1)).flatMap (preG l))) := ⟨by rw [hsn]; have : preG l i = [] := by { unfold preG; rw [if_neg hroot] }; rw [this, List.append_nil]; exact hJ.out⟩
          obtain ⟨p, hp⟩ : ∃ p, rd l (i : Int) = p := ⟨_, rfl⟩
          rw [hp] at x0 hroot
          have e1 : (p == (i : Int)) = false := by simpa using hroot
          clear hsn hJ hp hroot
          go_wp2_with fail
          go_roundg gk1
          case rel => exact ⟨i + 1, Ao, co, hi1, by go_num, hI3⟩
          case measure => exact hgk1
      · have hil : i = l.length := by omega
        have hF : Aside0 (OQ l w (.returned (.slice Ao ((List.range i).flatMap (preG l)).length co)) wr) := ⟨_, _, rfl, Kd.R_mono hJ.out.R (fun k hk => Nat.le_trans hJ.out.o1 hk.1), .inl ⟨hT'.out, by rw [hil]; rfl⟩, hJ.out.b⟩
        have q3 := hJ.out.co_
        obtain ⟨N, hN⟩ : ∃ N, ((List.range i).flatMap (preG l)).length = N := ⟨_, rfl⟩
        rw [hN] at q3 hF
        clear hJ hil hN
        go_wp2
        go_ret
        exact hF.out
  · subst ho
    have g1 := hP0.out.ck_
    have hI0 : Aside0 (OQ l w (.returned (.slice none 0 0)) w3) := ⟨_, [], rfl, Kd.R_nil _ _ _ _ _, .inr ⟨hT, rfl⟩, hP0.out.b⟩
    have g2 := hP0.out.co_
    clear hP0 hT
    go_wp2_with fail
    go_loopg [12] 0 (fun q v wi => v = .int .i64 0 ∧ Aside0 (OQ l w (.returned (.slice none 0 0)) wi) ∧ wi.cell? ⟨bo, 0, none⟩ = some (.slice none 0 0))
    case atStart => exact ⟨rfl, hI0, g2⟩
    case round =>
      obtain ⟨rfl, hJ, g3⟩ := hrel
      clear g1 g2
      go_wp2
      go_ret
      exact hJ.out
end Go.Proofs.Ytbphjbfnnhfhlaa
end

section
/- The walk of domtree.Build. -/
set_option linter.unusedVariables false
set_option linter.unusedSimpArgs false
set_option linter.unusedSectionVars false
namespace Go.Proofs.Ytbphjbfnnhfhlaa
open Go.RowKit Go.Proofs.YtbphjbfnnhfhlaaW.PrintWords Go.Proofs.Ytbphjbfnnhfhlaa.PDigraphTells Mem

/-- The solver in memory: ranks RL, parents TL. -/
structure Bw (w wP wi : World) (p gr gt lr lt lp n cp cr ct : Nat) (Ap : Option Addr) (PL : List (List Int)) (RL TL : List Int) : Prop where
  b : Below w.heap.size w wi
  hs : wi.heap[p]? = some (.cells #[.slice Ap n cp, .slice (some ⟨gr, 0, none⟩) n cr, .slice (some ⟨gt, 0, none⟩) n ct] 49 (0, 0))
  P : Kd.C kG wP Ap n PL
  bP : Below wP.heap.size wP wi
  R : Kd.R (Kd.int .i64) 3 wi 0 (fun k => lr ≤ k ∧ k < lt) (.slice (some ⟨gr, 0, none⟩) n cr) RL
  T : Kd.R (Kd.int .i64) 3 wi 0 (fun k => lt ≤ k ∧ k < lp) (.slice (some ⟨gt, 0, none⟩) n ct) TL
  o1 : w.heap.size ≤ wP.heap.size
  o2 : wP.heap.size ≤ lr
  o3 : lr ≤ lt
  o4 : lp ≤ p
  rl : RL.length = n
  tl : TL.length = n
section
variable {w wP wi wj : World} {p gr gt lr lt lp n cp cr ct : Nat} {Ap : Option Addr} {PL : List (List Int)} {RL TL : List Int} (h : Bw w wP wi p gr gt lr lt lp n cp cr ct Ap PL RL TL)
include h
theorem Bw.step (hb : Below wi.heap.size wi wj) : Bw w wP wj p gr gt lr lt lp n cp cr ct Ap PL RL TL :=
  ⟨h.b.trans (hb.mono h.b.size), (hb.block p (blk_lt' h.hs)).trans h.hs, h.P, h.bP.trans (hb.mono h.bP.size), Kd.R_step h.R (fun k _ hlt => hb.block k hlt), Kd.R_step h.T (fun k _ hlt => hb.block k hlt), h.o1, h.o2, h.o3, h.o4, h.rl, h.tl⟩
theorem Bw.putT (x v : Int) : Bw w wP (wi.setCell ⟨gt, x.toNat, none⟩ (.int .i64 v)) p gr gt lr lt lp n cp cr ct Ap PL RL (TL.set x.toNat v) := by
  have hg := h.T.1 gt rfl
  have hr := h.R.1 gr rfl
  have h1 := h.o1; have h2 := h.o2; have h3 := h.o3; have h4 := h.o4
  have hk : Kp (fun k => k = gt) wi (wi.setCell ⟨gt, x.toNat, none⟩ (.int .i64 v)) := (Kp.refl (fun k => k = gt) wi).setCell (p := ⟨gt, x.toNat, none⟩) (.inl rfl) _
  refine ⟨h.b.trans (hk.belowB (fun k hk => by subst hk; omega) h.b.size), hk.blk h.hs (by omega), h.P, h.bP.trans (hk.belowB (fun k hk => by subst hk; omega) h.bP.size), Kd.R_step h.R (fun k hk2 hlt => hk.block hlt (by omega)), (Kd.R_putg h.T x v).1, h.o1, h.o2, h.o3, h.o4, h.rl, by rw [List.length_set]; exact h.tl⟩
theorem Bw.putR (x v : Int) : Bw w wP (wi.setCell ⟨gr, x.toNat, none⟩ (.int .i64 v)) p gr gt lr lt lp n cp cr ct Ap PL (RL.set x.toNat v) TL := by
  have hg := h.T.1 gt rfl
  have hr := h.R.1 gr rfl
  have h1 := h.o1; have h2 := h.o2; have h3 := h.o3; have h4 := h.o4
  have hk : Kp (fun k => k = gr) wi (wi.setCell ⟨gr, x.toNat, none⟩ (.int .i64 v)) := (Kp.refl (fun k => k = gr) wi).setCell (p := ⟨gr, x.toNat, none⟩) (.inl rfl) _
  refine ⟨h.b.trans (hk.belowB (fun k hk => by subst hk; omega) h.b.size), hk.blk h.hs (by omega), h.P, h.bP.trans (hk.belowB (fun k hk => by subst hk; omega) h.bP.size), (Kd.R_putg h.R x v).1, Kd.R_step h.T (fun k hk2 hlt => hk.block hlt (by omega)), h.o1, h.o2, h.o3, h.o4, by rw [List.length_set]; exact h.rl, h.tl⟩
theorem Bw.sr : Sr wi p gr gt n cr ct RL TL :=
  ⟨cell_at h.hs rfl, cell_at h.hs rfl, fun x a b => (Kd.R_celln 0 h.R x a b).1, fun x a b => (Kd.R_celln 0 h.T x a b).1, h.rl, h.tl⟩
theorem Bw.c0 : wi.cell? ⟨p, 0, none⟩ = some (.slice Ap n cp) := cell_at h.hs rfl
theorem Bw.C : Kd.C kG wi Ap n PL := Kd.C_below h.P h.bP
theorem Bw.fr (x : Int) (a : 0 ≤ x) (b : x < n) : wi.frozen? ⟨gr, x.toNat, none⟩ = false := (Kd.R_celln 0 h.R x a b).2
theorem Bw.ft (x : Int) (a : 0 ≤ x) (b : x < n) : wi.frozen? ⟨gt, x.toNat, none⟩ = false := (Kd.R_celln 0 h.T x a b).2
end

set_option maxRecDepth 100000 in
set_option maxHeartbeats 2000000 in
theorem build_no (A : Option Addr) (c : Nat) (G : List (List Int)) (e : Int) (w : World) (hC : Kd.C kG w A G.length G) (hc : G.length ≤ c) (hs : short G) (hl : G.length ≤ 70) (h : ¬ (chk G = 0 ∧ isNode G e)) :
    Calls Try.prog 12 #[.agg #[.slice A G.length c], .int .i64 e] w fun e' w' => e' = .returned (.slice none 0 0) ∧ Below w.heap.size w w' := by
  have hX := Aside0.mk (And.intro hC (And.intro hc (And.intro hs (And.intro hl h))))
  have H0 := Aside0.mk (Gw.start (c := c) hC)
  clear hC hc hs hl h
  go_enter Try.func12, Try.ntmps12
  go_wp2_with fail
  obtain ⟨gb, hgb⟩ : ∃ gb, gb = w.heap.size := ⟨_, rfl⟩
  obtain ⟨w1, hw1⟩ : ∃ w1, w1 = w.alloc (.cells #[.slice A G.length c] 24 (0, 0)) := ⟨_, rfl⟩
  rw [← hgb, ← hw1] at H0
  rw [show Value.pointer (some (⟨w.heap.size, 0, none⟩ : Addr)) = Value.pointer (some ⟨gb, 0, none⟩) by rw [hgb], ← hw1]
  clear hgb hw1
  refine (rpost_any A c G e _ H0.out.C hX.out.2.1 hX.out.2.2.1 (by have := hX.out.2.2.2.1; omega)).mono ?_
  rintro e' w2 ⟨v, rfl, Rx, B2⟩
  have hp : post G e = [] := by unfold post; rw [if_neg hX.out.2.2.2.2]
  rw [hp] at Rx
  obtain ⟨A5, c5, ev, hx, Cx⟩ := Kd.R_reads Rx
  subst ev
  have H2 := Aside0.mk (H0.out.step B2)
  clear B2 H0 Rx hx Cx hp
  go_wp2
  go_ret
  exact ⟨rfl, H2.out.b⟩

set_option maxRecDepth 100000 in
set_option maxHeartbeats 4000000 in
theorem build_yes (A : Option Addr) (c : Nat) (G : List (List Int)) (e : Int) (w : World) (hC : Kd.C kG w A G.length G) (hc : G.length ≤ c) (hs : short G) (hl : G.length ≤ 70) (h : chk G = 0 ∧ isNode G e) :
    Calls Try.prog 12 #[.agg #[.slice A G.length c], .int .i64 e] w fun e' w' => ∃ v l, e' = .returned v ∧ Kd.R (Kd.int .i64) 3 w' 0 (fun k => w.heap.size ≤ k) v l ∧ Idm G e l ∧ Below w.heap.size w w' := by
  obtain ⟨L, hL⟩ : ∃ L, Aside0 (L = (post G e).reverse) := ⟨_, ⟨rfl⟩⟩
  obtain ⟨PL, hPL⟩ : ∃ PL, Aside0 (PL = predL G) := ⟨_, ⟨rfl⟩⟩
  have hX := Aside0.mk (And.intro hc (And.intro hs (And.intro hl h)))
  have hLl : Aside0 (L.length ≤ G.length ∧ 0 < L.length) := ⟨by rw [hL.out, List.length_reverse]; exact post_len G e, by obtain ⟨t, ht⟩ := rpo_head h; rw [hL.out, ht]; simp⟩
  have H0 := Aside0.mk (Gw.start (c := c) hC)
  clear hC hc hs hl h
  go_enter Try.func12, Try.ntmps12
  go_wp2_with fail
  obtain ⟨gb, hgb⟩ : ∃ gb, gb = w.heap.size := ⟨_, rfl⟩
  obtain ⟨w1, hw1⟩ : ∃ w1, w1 = w.alloc (.cells #[.slice A G.length c] 24 (0, 0)) := ⟨_, rfl⟩
  rw [← hgb, ← hw1] at H0
  rw [show Value.pointer (some (⟨w.heap.size, 0, none⟩ : Addr)) = Value.pointer (some ⟨gb, 0, none⟩) by rw [hgb], ← hw1]
  clear hgb hw1
  refine (rpost_any A c G e _ H0.out.C hX.out.1 hX.out.2.1 (by have := hX.out.2.2.1; omega)).mono ?_
  rintro e' w2 ⟨v, rfl, Rx, B2⟩
  rw [← hL.out] at Rx
  obtain ⟨A5, c5, ev, hx, Cx⟩ := Kd.R_reads Rx
  subst ev
  have H2 := Aside0.mk (And.intro (H0.out.step B2) (And.intro hx Cx))
  clear B2 H0 Rx hx Cx
  have hLne : ((L.length : Int) == 0) = false := by have := hLl.out.2; exact beq_eq_false_iff_ne.2 (by omega)
  have hLne2 : (L.length == 0) = false := by have := hLl.out.2; exact beq_eq_false_iff_ne.2 (by omega)
  have c0 := H2.out.1.cell
  go_wp2_with fail
  clear hLne hLne2
  refine (preds_any A c G _ H2.out.1.C hX.out.1 hX.out.2.1).mono ?_
  rintro e' w3 ⟨v, rfl, Rx, B3⟩
  have hPLl : PL.length = G.length := by rw [hPL.out]; exact pred_len hX.out.2.2.2.1
  rw [← hPL.out] at Rx
  obtain ⟨Ap, cp, ev, hx, Cx⟩ := Kd.R_reads Rx
  rw [hPLl] at ev Cx
  subst ev
  have H3 := Aside0.mk (And.intro (H2.out.1.step B3) (And.intro (Kd.C_below H2.out.2.2 B3) Cx))
  have hPLl := Aside0.mk hPLl
  clear B3 Rx hx Cx c0
  go_wp2_with fail
  refine (fill_any G.length (-1) _ (by have := hX.out.2.2.1; omega)).mono ?_
  rintro e' w4 ⟨v, rfl, RR, B4⟩
  obtain ⟨gr, cr, ev, _⟩ := Kd.R_form RR (by rw [List.length_replicate]; have h9 := hX.out.2.2.2.2; unfold isNode at h9; omega)
  rw [List.length_replicate] at ev
  subst ev
  have R4 := Aside0.mk (And.intro RR B4)
  clear RR B4
  go_wp2_with fail
  refine (fill_any G.length (-1) _ (by have := hX.out.2.2.1; omega)).mono ?_
  rintro e' w5 ⟨v, rfl, RR, B5⟩
  obtain ⟨gt, ct, ev, _⟩ := Kd.R_form RR (by rw [List.length_replicate]; have h9 := hX.out.2.2.2.2; unfold isNode at h9; omega)
  rw [List.length_replicate] at ev
  subst ev
  have R5 := Aside0.mk (And.intro RR B5)
  clear RR B5
  go_wp2_with fail
  obtain ⟨p, hp⟩ : ∃ p, p = w5.heap.size := ⟨_, rfl⟩
  obtain ⟨w6, hw6⟩ : ∃ w6, w6 = w5.alloc (.cells #[.slice Ap G.length cp, .slice (some ⟨gr, 0, none⟩) G.length cr, .slice (some ⟨gt, 0, none⟩) G.length ct] 49 (0, 0)) := ⟨_, rfl⟩
  rw [show Value.pointer (some (⟨w5.heap.size, 0, none⟩ : Addr)) = Value.pointer (some ⟨p, 0, none⟩) by rw [hp], ← hw6]
  have hI0 : Aside0 (Bw w w3 w6 p gr gt w3.heap.size w4.heap.size w5.heap.size G.length cp cr ct Ap PL (posL G (L.take 0)) (List.replicate G.length (-1)) ∧ Kd.C (Kd.int .i64) w3 A5 L.length L) := ⟨by
    have b34 := R4.out.2
    have b45 := R5.out.2
    have b56 : Below w5.heap.size w5 w6 := by rw [hw6]; exact below_alloc (Below.refl _ _) _
    have s1 := H3.out.1.b.size
    have s2 := b34.size
    have s3 := b45.size
    refine ⟨H3.out.1.b.trans (((b34.trans (b45.mono b34.size)).trans (b56.mono (by omega))).mono s1), by rw [hw6, hp]; exact heap_alloc_new w5 _, H3.out.2.2, (b34.trans (b45.mono b34.size)).trans (b56.mono (by omega)), ?_, ?_, s1, Nat.le_refl _, s2, by omega, posL_len _ _, List.length_replicate⟩
    · rw [show L.take 0 = [] from rfl, posL_nil]
      have hR := Kd.R_mono (Kd.R_bound R4.out.1) (ok' := fun k => w3.heap.size ≤ k ∧ k < w4.heap.size) (fun k hk => ⟨hk.1, hk.2.2.1⟩)
      exact Kd.R_step (Kd.R_step hR (fun k hk hlt => b45.block k hlt)) (fun k hk hlt => b56.block k hlt)
    · have hR := Kd.R_mono (Kd.R_bound R5.out.1) (ok' := fun k => w4.heap.size ≤ k ∧ k < w5.heap.size) (fun k hk => ⟨hk.1, hk.2.2.1⟩)
      exact Kd.R_step hR (fun k hk hlt => b56.block k hlt), H3.out.2.1⟩
  have hc5 := Aside0.mk H2.out.2.1
  clear hp hw6 H3 R4 R5 H2
  obtain ⟨lr, hlr⟩ : ∃ lr, lr = w3.heap.size := ⟨_, rfl⟩
  obtain ⟨lt, hlt⟩ : ∃ lt, lt = w4.heap.size := ⟨_, rfl⟩
  obtain ⟨lp, hlp⟩ : ∃ lp, lp = w5.heap.size := ⟨_, rfl⟩
  rw [← hlr, ← hlt, ← hlp] at hI0
  clear hlr hlt hlp
  have hLn : Aside0 (L.Nodup ∧ ∀ x ∈ L, isNode G x) := ⟨by rw [hL.out, List.nodup_iff_count]; intro x; rw [List.count_reverse]; exact List.nodup_iff_count.1 (post_nd hX.out.2.2.2) x, fun x hx => reach_node hX.out.2.2.2 ((rpo_mem hX.out.2.2.2 x).1 (by rw [← hL.out]; exact hx))⟩
  go_loopg [33] L.length (fun q v wi => ∃ i : Nat, i + q = L.length ∧ v = .int .i64 (i : Int) ∧ Aside0 (Bw w w3 wi p gr gt lr lt lp G.length cp cr ct Ap PL (posL G (L.take i)) (List.replicate G.length (-1)) ∧ Kd.C (Kd.int .i64) w3 A5 L.length L))
  case atStart => exact ⟨0, by omega, rfl, hI0⟩
  case round =>
    obtain ⟨i, hi, rfl, hJ⟩ := hrel
    clear hI0
    by_cases hlt : i < L.length
    · have hlti : (i : Int) < L.length := by omega
      obtain ⟨gk1, rfl⟩ : ∃ q, gk = q + 1 := ⟨gk - 1, by omega⟩
      have hi1 : i + 1 + gk1 = L.length := by omega
      have hgk1 : gk1 < gk1 + 1 := by omega
      obtain ⟨ad, eA, x0⟩ := Kd.at_int (Kd.C_below hJ.out.2 hJ.out.1.bP) (i : Int) (by omega) hlti
      rw [rd_get L i hlt, Int.toNat_natCast] at x0
      subst eA
      obtain ⟨k1, k2⟩ := hLn.out.2 L[i] (List.getElem_mem hlt)
      have hset := posL_set G (hLn.out.2 L[i] (List.getElem_mem hlt)) (posL_last G hLn.out.1 i hlt)
      rw [List.length_take, Nat.min_eq_left (Nat.le_of_lt hlt), ← List.take_succ_eq_append_getElem hlt] at hset
      obtain ⟨k, hk⟩ : ∃ k, k = L[i] := ⟨_, rfl⟩
      rw [← hk] at x0 k1 k2 hset
      have s1 := hJ.out.1.sr.c1
      have s2 := hJ.out.1.sr.r k k1 k2
      have s3 := hJ.out.1.fr k k1 k2
      have hput := hJ.out.1.putR k (i : Int)
      rw [hset] at hput
      have hI := Aside0.mk (And.intro hput hJ.out.2)
      have hl60 : L.length ≤ 70 := by have := hLl.out.1; have := hX.out.2.2.1; omega
      clear hput hset hJ hk
      go_wp2
      go_roundg gk1
      case rel => exact ⟨i + 1, hi1, by go_num, hI⟩
      case measure => exact hgk1
    · have hI1 : Aside0 (Bw w w3 wr p gr gt lr lt lp G.length cp cr ct Ap PL (posL G L) (List.replicate G.length (-1)) ∧ Kd.C (Kd.int .i64) w3 A5 L.length L) := ⟨by have := hJ.out; rw [List.take_of_length_le (by omega)] at this; exact this⟩
      clear hJ
      have he1 : 0 ≤ e := by have h9 := hX.out.2.2.2.2; unfold isNode at h9; omega
      have he2 : e < (G.length : Int) := by have h9 := hX.out.2.2.2.2; unfold isNode at h9; omega
      have s1 := hI1.out.1.sr.c2
      have s2 := hI1.out.1.sr.t e he1 he2
      have s3 := hI1.out.1.ft e he1 he2
      have hput := hI1.out.1.putT e e
      have hI2 := Aside0.mk (And.intro hput hI1.out.2)
      clear hput hI1
      go_wp2_with fail
      obtain ⟨w7, hw7⟩ : ∃ w7, w7 = wr.setCell ⟨gt, e.toNat, none⟩ (.int .i64 e) := ⟨_, rfl⟩
      rw [← hw7] at hI2 ⊢
      clear hw7 s1 s2 s3 hlt hi
      have hst : Aside0 (Hd G e L ((List.replicate G.length (-1)).set e.toNat e) true (G.length * G.length + 1)) := ⟨hd_start hX.out.2.2.2 hL.out⟩
      go_loopg [10] (G.length * G.length + 1) (fun q vc wi => ∃ (ch : Bool) (TL : List Int), vc = .bool ch ∧ Aside0 (Bw w w3 wi p gr gt lr lt lp G.length cp cr ct Ap PL (posL G L) TL ∧ Hd G e L TL ch q))
      case atStart => exact ⟨true, _, rfl, hI2.out.1, hst.out⟩
      case round =>
        obtain ⟨ch, TL, rfl, hJ⟩ := hrel
        clear hst
        cases ch
        · have hN := Aside0.mk (hd_idm hX.out.2.2.2 hL.out hJ.out.2)
          have s1 := hJ.out.1.sr.c2
          have hR := Aside0.mk (And.intro (Kd.R_mono hJ.out.1.T (ok' := fun k => w.heap.size ≤ k) (fun k hk => by have h1 := hJ.out.1.o1; have h2 := hJ.out.1.o2; have h3 := hJ.out.1.o3; omega)) hJ.out.1.b)
          clear hJ hI2
          go_wp2
          go_ret
          exact ⟨_, TL, rfl, hR.out.1, hN.out, hR.out.2⟩
        · obtain ⟨gk1, rfl⟩ : ∃ q, gk = q + 1 := ⟨gk - 1, by have := (hJ.out.2.go rfl).2; omega⟩
          have hgk1 : gk1 < gk1 + 1 := by omega
          obtain ⟨s, hps⟩ := pass_start hX.out.2.2.2 hL.out hJ.out.2
          have hI3 : Aside0 (Bw w w3 wr p gr gt lr lt lp G.length cp cr ct Ap PL (posL G L) TL ∧ Ps G e L s TL 1 false gk1) := ⟨hJ.out.1, hps⟩
          obtain ⟨X, hX1, hX2⟩ := row_from1 (A := A5) (l := L) (c := c5) hLl.out.2 hc5.out
          have hdl : (L.drop 1).length = L.length - 1 := by rw [List.length_drop]
          have hCd := Aside0.mk (hX2 w3 hI2.out.2)
          rw [hdl] at hCd
          clear hX2 hdl hJ
          go_wp2_with fail
          clear hX1
          go_loopg [10, 57] (L.length - 1) (fun q vc v wi => ∃ (j : Nat) (ch : Bool) (TL : List Int), j + q = L.length - 1 ∧ v = .int .i64 (j : Int) ∧ vc = .bool ch ∧ Aside0 (Bw w w3 wi p gr gt lr lt lp G.length cp cr ct Ap PL (posL G L) TL ∧ Ps G e L s TL ((j : Int) + 1) ch gk1))
          case atStart => exact ⟨0, false, TL, by omega, rfl, rfl, by simpa using hI3⟩
          case round =>
            obtain ⟨j, ch, TL2, hj, rfl, rfl, hJ⟩ := hrel
            clear hI3
            by_cases hltj : j < L.length - 1
            · have hltji : (j : Int) < ((L.length - 1 : Nat) : Int) := by omega
              obtain ⟨gk3, rfl⟩ : ∃ q, gk = q + 1 := ⟨gk - 1, by omega⟩
              have hj1 : j + 1 + gk3 = L.length - 1 := by omega
              have hgk3 : gk3 < gk3 + 1 := by omega
              have hl60 : L.length ≤ 70 := by have := hLl.out.1; have := hX.out.2.2.1; omega
              obtain ⟨ad, eA, x0⟩ := Kd.at_int (Kd.C_below hCd.out hJ.out.1.bP) (j : Int) (by omega) hltji
              rw [rd_get (L.drop 1) j (by rw [List.length_drop]; exact hltj), Int.toNat_natCast, List.getElem_drop] at x0
              subst eA
              obtain ⟨k1, k2⟩ := hLn.out.2 L[1 + j] (List.getElem_mem (by omega))
              have hpos := pos_at hLn.out.1 (1 + j) (by omega)
              obtain ⟨k, hk⟩ : ∃ k, k = L[1 + j] := ⟨_, rfl⟩
              rw [← hk] at x0 k1 k2 hpos
              have hpos : Aside0 (pos L k = (j : Int) + 1) := ⟨by rw [hpos]; omega⟩
              have hbest := best_any (hJ.out.2.wf hX.out.2.2.2 hL.out rfl) k k1 k2 p gr gt cr ct cp Ap PL wr hJ.out.1.sr hJ.out.1.C hJ.out.1.c0 (fun q hq => by
                rw [hPL.out] at hq
                have e1 : rd_L1 (predL G) k = pvU G G.length k := pred_adj hX.out.2.2.2.1 ⟨k1, k2⟩
                rw [e1] at hq
                exact ((mem_pvU G k q).1 hq).1) (by
                rw [hPL.out]
                have e1 : rd_L1 (predL G) k = pvU G G.length k := pred_adj hX.out.2.2.2.1 ⟨k1, k2⟩
                rw [e1]
                have := pvU_len G G.length k
                have := hX.out.2.2.1
                omega)
              have hbest := Aside0.mk hbest
              clear hk
              go_wp2_with fail
              refine hbest.out.mono ?_
              rintro e' w9 ⟨d, rfl, hb, hD⟩
              have hnca := bst_nca hX.out.2.2.2 hL.out hJ.out.2 hpos.out (by omega) (by rw [← hPL.out]; exact hb)
              have hM := Aside0.mk (And.intro (hJ.out.1.step hD.below) (And.intro hJ.out.2 hnca.1))
              have s1 := hM.out.1.sr.c2
              have s2 := hM.out.1.sr.t k k1 k2
              rw [distOf_rd TL2 k k1 (by rw [hM.out.2.1.len]; exact k2)] at s2
              have s3 := hM.out.1.ft k k1 k2
              clear hbest hb hD hnca hJ x0
              by_cases hdk : d = distOf TL2 k
              · have hI : Aside0 (Bw w w3 w9 p gr gt lr lt lp G.length cp cr ct Ap PL (posL G L) TL2 ∧ Ps G e L s TL2 (((j + 1 : Nat) : Int) + 1) ch gk1) := ⟨hM.out.1, by have := pass_same hX.out.2.2.2 hL.out hM.out.2.1 hpos.out (by omega) hM.out.2.2 hdk; rw [show (((j + 1 : Nat) : Int) + 1) = (j : Int) + 1 + 1 by omega]; exact this⟩
                rw [← hdk] at s2
                have e1 : (d != d) = false := by simp
                clear hM hdk
                go_wp2_with fail
                go_roundg gk3
                case rel => exact ⟨j + 1, ch, TL2, hj1, by go_num, rfl, hI⟩
                case measure => exact hgk3
              · have hput := hM.out.1.putT k d
                have hI : Aside0 (Bw w w3 (w9.setCell ⟨gt, k.toNat, none⟩ (.int .i64 d)) p gr gt lr lt lp G.length cp cr ct Ap PL (posL G L) (TL2.set k.toNat d) ∧ Ps G e L s (TL2.set k.toNat d) (((j + 1 : Nat) : Int) + 1) true gk1) := ⟨hput, by have := pass_new hX.out.2.2.2 hL.out hM.out.2.1 hpos.out (by omega) hM.out.2.2 hdk; rw [show (((j + 1 : Nat) : Int) + 1) = (j : Int) + 1 + 1 by omega]; exact this⟩
                obtain ⟨tk, htk⟩ : ∃ tk, distOf TL2 k = tk := ⟨_, rfl⟩
                rw [htk] at s2 hdk
                have e1 : (d != tk) = true := by simpa using hdk
                clear hM hdk htk hput
                go_wp2_with fail
                go_roundg gk3
                case rel => exact ⟨j + 1, true, TL2.set k.toNat d, hj1, by go_num, rfl, hI⟩
                case measure => exact hgk3
            · have hI : Aside0 (Bw w w3 wr p gr gt lr lt lp G.length cp cr ct Ap PL (posL G L) TL2 ∧ Hd G e L TL2 ch gk1) := ⟨hJ.out.1, by
                have h9 := hJ.out.2
                rw [show (j : Int) + 1 = (L.length : Int) by have := hLl.out.2; omega] at h9
                exact pass_end hX.out.2.2.2 hL.out h9⟩
              clear hJ
              go_wp2_with fail
              go_roundg gk1
              case rel => exact ⟨ch, TL2, rfl, hI⟩
              case measure => exact hgk1
/-- What Build answers. -/
def Bld (G : List (List Int)) (e : Int) (l : List Int) : Prop := ((chk G = 0 ∧ isNode G e) ∧ Idm G e l) ∨ (¬ (chk G = 0 ∧ isNode G e) ∧ l = [])
theorem Bld.uniq {G : List (List Int)} {e : Int} {l m : List Int} (hl : Bld G e l) (hm : Bld G e m) : l = m := by
  rcases hl with ⟨h1, h2⟩ | ⟨h1, h2⟩ <;> rcases hm with ⟨h3, h4⟩ | ⟨h3, h4⟩
  · exact idm_uniq h1 h2 h4
  · exact absurd h1 h3
  · exact absurd h3 h1
  · rw [h2, h4]
theorem build_any (A : Option Addr) (c : Nat) (G : List (List Int)) (e : Int) (w : World) (hC : Kd.C kG w A G.length G) (hc : G.length ≤ c) (hs : short G) (hl : G.length ≤ 70) :
    Calls Try.prog 12 #[.agg #[.slice A G.length c], .int .i64 e] w fun e' w' => ∃ v l, e' = .returned v ∧ Kd.R (Kd.int .i64) 3 w' 0 (fun k => w.heap.size ≤ k) v l ∧ Bld G e l ∧ Below w.heap.size w w' := by
  by_cases h : chk G = 0 ∧ isNode G e
  · refine (build_yes A c G e w hC hc hs hl h).mono ?_
    rintro e' w' ⟨v, l, h1, h2, h3, h4⟩
    exact ⟨v, l, h1, h2, .inl ⟨h, h3⟩, h4⟩
  · refine (build_no A c G e w hC hc hs hl h).mono ?_
    rintro e' w' ⟨rfl, h1⟩
    exact ⟨_, [], rfl, Kd.R_nil _ _ _ _ _, .inr ⟨h, rfl⟩, h1⟩
end Go.Proofs.Ytbphjbfnnhfhlaa
end

section
/- PostDominators. -/
set_option linter.unusedVariables false
set_option linter.unusedSimpArgs false
set_option linter.unusedSectionVars false
namespace Go.Proofs.Ytbphjbfnnhfhlaa
open Go.RowKit Go.Proofs.YtbphjbfnnhfhlaaW.PrintWords Go.Proofs.Ytbphjbfnnhfhlaa.PDigraphTells Mem

theorem own_emptyK {α : Type} (d : Kd α) (W : World) (e : Nat) (ok : Nat → Prop) (h : ok W.heap.size) : d.R e (W.alloc (.cells #[] e)) 0 ok (.slice (some ⟨W.heap.size, 0, none⟩) 0 0) [] := by
  refine ⟨fun k hk => ?_, [], World.ownsRow_made W #[] 0 (Nat.zero_le _) (Nat.zero_le _) (by simp), Reps.none _ _⟩
  have : W.heap.size = k := by simpa [Value.ownBlock] using hk
  exact this ▸ h
/-- The nodes without a successor, of the first i. -/
def sinkU (G : List (List Int)) (i : Nat) : List Int := ((List.range i).filter fun (j : Nat) => decide ((rd_L1 G (j : Int)).length = 0)).map fun (j : Nat) => (j : Int)
def postG (G : List (List Int)) : List (List Int) := predL G ++ [sinkU G G.length]
theorem sinkU_succ (G : List (List Int)) (i : Nat) : sinkU G (i + 1) = sinkU G i ++ if (rd_L1 G (i : Int)).length = 0 then [(i : Int)] else [] := by
  unfold sinkU
  rw [List.range_succ, List.filter_append, List.map_append]
  by_cases h : (rd_L1 G (i : Int)).length = 0
  · rw [if_pos h, List.filter_cons, if_pos (by simpa using h)]; rfl
  · rw [if_neg h, List.filter_cons, if_neg (by simpa using h)]; rfl
theorem sinkU_len (G : List (List Int)) (i : Nat) : (sinkU G i).length ≤ i := by
  unfold sinkU
  rw [List.length_map]
  have := List.length_filter_le (fun (j : Nat) => decide ((rd_L1 G (j : Int)).length = 0)) (List.range i)
  rwa [List.length_range] at this
theorem postG_len {G : List (List Int)} (h : chk G = 0) : (postG G).length = G.length + 1 := by unfold postG; rw [List.length_append, pred_len h]; rfl
theorem postG_short {G : List (List Int)} (h : chk G = 0) (hl : G.length ≤ 69) : short (postG G) := by
  refine ⟨by rw [postG_len h]; omega, fun l hl2 => ?_⟩
  unfold postG at hl2
  rcases List.mem_append.1 hl2 with h1 | h1
  · unfold predL at h1
    rw [if_pos h] at h1
    obtain ⟨b, _, rfl⟩ := List.mem_map.1 h1
    have := pvU_len G G.length b
    omega
  · rw [List.mem_singleton.1 h1]
    have := sinkU_len G G.length
    omega

theorem row_at {w : World} {A : Option Addr} {n : Nat} {G : List (List Int)} (hC : Kd.C kG w A n G) (i : Nat) (hi : i < n) : ∃ ad Ar cr, A = some ad ∧ w.cell? (ad.add i) = some (.slice Ar (rd_L1 G (i : Int)).length cr) := by
  obtain ⟨ad, c, e, _, hK, hcc⟩ := Kd.C_get hC [] (i : Int) (by omega) (by omega)
  obtain ⟨Ar, cr, rfl, _, _⟩ := hK
  have h0 := hcc 0 _ rfl
  rw [show kG.sz = 1 from rfl, Nat.mul_one, Nat.add_zero, Int.toNat_natCast] at h0
  exact ⟨ad, Ar, cr, e, h0⟩
/-- What stays while the row of sinks is written. -/
structure XS (w W0 : World) (gb gq go n : Nat) (A : Option Addr) (c CC : Nat) (P : List (List Int)) (cs : Array Value) : Prop where
  N : ∃ news : List (List Value), news.length = n ∧ (Kd.raw 1).R 28 W0 0 (fun _ => True) (.slice (some ⟨go, 0, none⟩) (n + 1) CC) (news ++ [[.slice none 0 0]]) ∧ ∀ (j : Nat) (x : List Int) (c : List Value), P[j]? = some x → news[j]? = some c → Kd.FK kG W0 (fun k => k ≠ go) x c
  g : W0.heap[gb]? = some (.cells #[.slice A n c] 24 (0, 0))
  q : W0.heap[gq]? = some (.cells #[.slice (some ⟨go, 0, none⟩) (n + 1) CC] 24 (0, 0))
  o : W0.heap[go]? = some (.cells cs 28 (0, 0))
  cn : cs[n]? = some (.slice none 0 0)
  wo : w.heap.size ≤ go
  ob : go ≠ gb
  oq : go ≠ gq
  b : Below w.heap.size w W0
  pl : P.length = n
/-- What holds while it is written. -/
structure XO (w W0 wi : World) (go n : Nat) (cs : Array Value) (AS : Option Addr) (cS : Nat) (S : List Int) : Prop where
  o : wi.heap[go]? = some (.cells (cs.setIfInBounds n (.slice AS S.length cS)) 28 (0, 0))
  kp : Kp (fun k => k = go) W0 wi
  R : Kd.R (Kd.int .i64) 3 wi 0 (fun k => W0.heap.size ≤ k) (.slice AS S.length cS) S
section
variable {w W0 wi wj wa : World} {gb gq go n c CC cS : Nat} {A AS : Option Addr} {P : List (List Int)} {cs : Array Value} {S : List Int}
theorem XO.start (hs : XS w W0 gb gq go n A c CC P cs) : XO w W0 W0 go n cs none 0 [] := by
  refine ⟨?_, Kp.refl _ _, Kd.R_nil _ _ _ _ _⟩
  rw [hs.o]
  congr 2
  apply Array.ext_getElem?
  intro j
  rw [Array.getElem?_setIfInBounds]
  split
  · next h => subst h; split
              · exact hs.cn
              · next h2 => exact absurd (Array.getElem?_eq_some_iff.1 hs.cn).1 h2
  · rfl
theorem XO.step (hs : XS w W0 gb gq go n A c CC P cs) (h : XO w W0 wi go n cs AS cS S) (hb : Below wi.heap.size wi wj) : XO w W0 wj go n cs AS cS S :=
  ⟨(hb.block go (blk_lt' h.o)).trans h.o, h.kp.then_ (Kp.of_below hb (fun _ => False)) (fun _ h => h.elim), Kd.R_step h.R (fun k _ hk => hb.block k hk)⟩
theorem XO.gc (hs : XS w W0 gb gq go n A c CC P cs) (h : XO w W0 wi go n cs AS cS S) : wi.cell? ⟨gb, 0, none⟩ = some (.slice A n c) := cell_at ((h.kp.blk hs.g (fun e => hs.ob e.symm))) rfl
theorem XO.qc (hs : XS w W0 gb gq go n A c CC P cs) (h : XO w W0 wi go n cs AS cS S) : wi.cell? ⟨gq, 0, none⟩ = some (.slice (some ⟨go, 0, none⟩) (n + 1) CC) := cell_at ((h.kp.blk hs.q (fun e => hs.oq e.symm))) rfl
theorem XO.oc (hs : XS w W0 gb gq go n A c CC P cs) (h : XO w W0 wi go n cs AS cS S) : wi.cell? ⟨go, n, none⟩ = some (.slice AS S.length cS) ∧ wi.frozen? ⟨go, n, none⟩ = false := by
  refine ⟨cell_at h.o ?_, free_at h.o n⟩
  rw [Array.getElem?_setIfInBounds, if_pos rfl, if_pos (Array.getElem?_eq_some_iff.1 hs.cn).1]
theorem XO.below (hs : XS w W0 gb gq go n A c CC P cs) (h : XO w W0 wi go n cs AS cS S) : Below w.heap.size w wi := hs.b.trans (h.kp.belowB (fun k hk => by rw [hk]; exact hs.wo) hs.b.size)
theorem XO.put (hs : XS w W0 gb gq go n A c CC P cs) (h : XO w W0 wi go n cs AS cS S) {A1 : Option Addr} {c1 : Nat} {S1 : List Int} (hg : wi.grownBy wa (Value.slice AS S.length cS).ownBlock) (hR : Kd.R (Kd.int .i64) 3 wa 0 (fun k => W0.heap.size ≤ k) (.slice A1 S1.length c1) S1) : XO w W0 (wa.setCell ⟨go, n, none⟩ (.slice A1 S1.length c1)) go n cs A1 c1 S1 := by
  have hgo := blk_lt' hs.o
  have hka : Kp (fun k => k = go) W0 wa := h.kp.grown hg (fun k hk => .inr (h.R.1 k hk))
  have hoa : wa.heap[go]? = wi.heap[go]? := hg.block go (blk_lt' h.o) (fun e => by have := h.R.1 go e.symm; omega)
  refine ⟨?_, hka.setCell (p := ⟨go, n, none⟩) (.inl rfl) _, Kd.R_far (p := ⟨go, n, none⟩) hR (fun k hk => by show k ≠ go; omega) _⟩
  rw [set_at (hoa.trans h.o), Array.setIfInBounds_setIfInBounds]
theorem XO.far (hs : XS w W0 gb gq go n A c CC P cs) (h : XO w W0 wi go n cs AS cS S) (hg : wi.grownBy wa (Value.slice AS S.length cS).ownBlock) : wa.cell? ⟨go, n, none⟩ = some (.slice AS S.length cS) ∧ wa.frozen? ⟨go, n, none⟩ = false ∧ wa.cell? ⟨gq, 0, none⟩ = some (.slice (some ⟨go, 0, none⟩) (n + 1) CC) := by
  have hgq := blk_lt' hs.q
  have hqi := h.kp.blk hs.q (fun e => hs.oq e.symm)
  have hqa : wa.heap[gq]? = wi.heap[gq]? := hg.block gq (blk_lt' hqi) (fun e => by have := h.R.1 gq e.symm; omega)
  have hgo := blk_lt' hs.o
  have hoa : wa.heap[go]? = wi.heap[go]? := hg.block go (blk_lt' h.o) (fun e => by have := h.R.1 go e.symm; omega)
  refine ⟨cell_at (hoa.trans h.o) ?_, free_at (hoa.trans h.o) n, cell_at (hqa.trans hqi) rfl⟩
  rw [Array.getElem?_setIfInBounds, if_pos rfl, if_pos (Array.getElem?_eq_some_iff.1 hs.cn).1]
theorem XO.C (hs : XS w W0 gb gq go n A c CC P cs) (h : XO w W0 wi go n cs AS cS S) (hn : n < 1000) : Kd.C kG wi (some ⟨go, 0, none⟩) (n + 1) (P ++ [S]) := by
  refine ⟨by rw [List.length_append, hs.pl]; rfl, by omega, fun _ => ⟨_, rfl, fun j p hj => ?_⟩⟩
  have hjl : j < n + 1 := by have := (List.getElem?_eq_some_iff.1 hj).1; rw [List.length_append, hs.pl] at this; exact this
  rw [show kG.sz = 1 from rfl, Nat.mul_one]
  by_cases hjn : j < n
  · obtain ⟨news, hnl, hNR, hNF⟩ := hs.N
    obtain ⟨c', hcl, hM, hcc, _⟩ := Kd.R_elem hNR [] (j : Int) (by omega) (by omega)
    rw [Int.toNat_natCast] at hM hcc
    have hjP : j < P.length := by rw [hs.pl]; exact hjn
    have hjN : j < news.length := by rw [hnl]; exact hjn
    rw [List.getElem?_append_left hjP] at hj
    have e1 : news[j]? = some c' := by
      have h1 := hM.1
      rw [List.getD_eq_getElem?_getD, List.getElem?_append_left hjN, List.getElem?_eq_getElem hjN] at h1
      rw [List.getElem?_eq_getElem hjN]
      exact congrArg some h1.symm
    refine ⟨c', hcl, Kd.FK_now (Kd.FK_step (hNF j p c' hj e1) (fun k hk hlt => h.kp.block hlt (fun e => hk e))), fun i u hu => ?_⟩
    have hi : i = 0 := by have := (List.getElem?_eq_some_iff.1 hu).1; rw [hcl] at this; have : i < 1 := this; omega
    subst hi
    have h1 := hcc 0 u hu
    rw [show (Kd.raw 1).sz = 1 from rfl, Nat.mul_one, Nat.add_zero] at h1
    rw [add0, Nat.add_zero]
    have h2 : cs[j]? = some u := by simpa [World.cell?, hs.o] using h1
    refine cell_at h.o ?_
    rw [Array.getElem?_setIfInBounds, if_neg (by omega)]
    exact h2
  · have hjn : j = n := by omega
    subst hjn
    rw [List.getElem?_append_right (by rw [hs.pl]; exact Nat.le_refl _), hs.pl, Nat.sub_self] at hj
    have hp : S = p := by simpa using hj
    subst hp
    refine ⟨[.slice AS S.length cS], rfl, ⟨AS, cS, rfl, (Kd.R_reads' h.R).2⟩, fun i u hu => ?_⟩
    have hi : i = 0 := by have := (List.getElem?_eq_some_iff.1 hu).1; simpa using this
    subst hi
    have hu' : Value.slice AS S.length cS = u := by simpa using hu
    subst hu'
    rw [add0, Nat.add_zero]
    exact (h.oc hs).1
end
theorem xs_start {w w3 w4 w5 : World} {gb go c CC : Nat} {A : Option Addr} {G P : List (List Int)} {news : List (List Value)} {v4 : Value} {o : Obj} {okp : Nat → Prop} (hH : Gw w w3 gb A c G) (hPl : P.length = G.length) (hnl : news.length = G.length)
    (hnf : ∀ (j : Nat) (x : List Int) (c : List Value), P[j]? = some x → news[j]? = some c → Kd.FK kG w3 okp x c)
    (hg4 : (w3.alloc o).grownBy w4 (Value.slice (some ⟨w3.heap.size, 0, none⟩) 0 0).ownBlock) (hat4 : v4.ownBlock = (Value.slice (some ⟨w3.heap.size, 0, none⟩) 0 0).ownBlock ∨ ∃ b, v4.ownBlock = some b ∧ (w3.alloc o).heap.size ≤ b)
    (hN5 : (Kd.raw 1).R 28 w5 0 (fun _ => True) (.slice (some ⟨go, 0, none⟩) (G.length + 1) CC) (news ++ [[.slice none 0 0]])) (hg5 : w4.grownBy w5 v4.ownBlock) (hat5 : (Value.slice (some ⟨go, 0, none⟩) (G.length + 1) CC).ownBlock = v4.ownBlock ∨ ∃ b, (Value.slice (some ⟨go, 0, none⟩) (G.length + 1) CC).ownBlock = some b ∧ w4.heap.size ≤ b) :
    ∃ cs, XS w (w5.alloc (.cells #[.slice (some ⟨go, 0, none⟩) (G.length + 1) CC] 24 (0, 0))) gb w5.heap.size go G.length A c CC P cs := by
  have hsz : (w3.alloc o).heap.size = w3.heap.size + 1 := Array.size_push o
  have hv4 : ∀ k, v4.ownBlock = some k → w3.heap.size ≤ k := by
    intro k hk
    rcases hat4 with h | ⟨b, h1, h2⟩
    · rw [h] at hk
      have : w3.heap.size = k := by simpa [Value.ownBlock] using hk
      omega
    · rw [h1] at hk; injection hk with hk; omega
  have hk4 : Kp (fun _ => False) w3 w4 := ((Kp.refl _ w3).alloc o).grown hg4 (fun k hk => .inr (Nat.le_of_eq (by simpa [Value.ownBlock] using hk)))
  have hk5 : Kp (fun _ => False) w3 w5 := hk4.grown hg5 (fun k hk => .inr (hv4 k hk))
  have hgo : w3.heap.size ≤ go := by
    rcases hat5 with h | ⟨b, h1, h2⟩
    · exact hv4 go (by rw [← h]; simp [Value.ownBlock])
    · have : go = b := by simpa [Value.ownBlock] using h1
      have := hk4.size
      omega
  obtain ⟨g', cap', ev, _, hglt, cs, hcs⟩ := Kd.R_form hN5 (by simp)
  injection ev with e1 e2 e3
  injection e1 with e1
  injection e1 with e1
  subst e1
  have b5 : Below w5.heap.size w5 (w5.alloc (.cells #[.slice (some ⟨go, 0, none⟩) (G.length + 1) CC] 24 (0, 0))) := below_alloc (Below.refl _ _) _
  have hgb := blk_lt' hH.g
  have bb : Below w3.heap.size w3 w5 := hk5.none_below
  have hcn : cs[G.length]? = some (.slice none 0 0) := by
    obtain ⟨c', hcl, hM, hcc, _⟩ := Kd.R_elem hN5 [] (G.length : Int) (by omega) (by omega)
    rw [Int.toNat_natCast] at hM hcc
    have h1 := hM.1
    rw [List.getD_eq_getElem?_getD, List.getElem?_append_right (by rw [hnl]; exact Nat.le_refl _), hnl, Nat.sub_self] at h1
    have h2 : c' = [.slice none 0 0] := h1
    subst h2
    have h3 := hcc 0 _ rfl
    rw [show (Kd.raw 1).sz = 1 from rfl, Nat.mul_one, Nat.add_zero] at h3
    simpa [World.cell?, hcs] using h3
  refine ⟨cs, ⟨⟨news, hnl, Kd.R_step hN5 (fun k _ hk => b5.block k hk), fun j x c' hx hc => Kd.FK_mono (Kd.FK_step (Kd.FK_bound (hnf j x c' hx hc)) (fun k hk hlt => (b5.block k (by have := bb.size; omega)).trans (bb.block k hlt))) (fun k hk => by have := hk.2; omega)⟩, ?_, ?_, ?_, hcn, by have := hH.b.size; omega, by omega, by omega, ?_, hPl⟩⟩
  · exact (b5.block gb (by have := bb.size; omega)).trans ((bb.block gb hgb).trans hH.g)
  · exact heap_alloc_new w5 _
  · exact (b5.block go hglt).trans hcs
  · exact hH.b.trans ((bb.trans (b5.mono bb.size)).mono hH.b.size)

/-- What PostDominators answers. -/
def XQ (G : List (List Int)) (w : World) (e : Ending) (w' : World) : Prop := ∃ v l, e = .returned v ∧ Kd.R (Kd.int .i64) 3 w' 0 (fun k => w.heap.size ≤ k) v l ∧ ((chk G = 0 ∧ Bld (postG G) (G.length : Int) l) ∨ (chk G ≠ 0 ∧ l = [])) ∧ Below w.heap.size w w'

set_option maxRecDepth 100000 in
set_option maxHeartbeats 2000000 in
theorem postdom_no (A : Option Addr) (c : Nat) (G : List (List Int)) (w : World) (hC : Kd.C kG w A G.length G) (hc : G.length ≤ c) (hs : short G) (h : ¬ chk G = 0) :
    Calls Try.prog 14 #[.agg #[.slice A G.length c]] w (XQ G w) := by
  have hX := Aside0.mk (And.intro hC (And.intro hc (And.intro hs h)))
  have H0 := Aside0.mk (Gw.start (c := c) hC)
  clear hC hc hs h
  go_enter Try.func14, Try.ntmps14
  have c0 := H0.out.cell
  go_wp2_with fail
  obtain ⟨gb, hgb⟩ : ∃ gb, gb = w.heap.size := ⟨_, rfl⟩
  obtain ⟨w1, hw1⟩ : ∃ w1, w1 = w.alloc (.cells #[.slice A G.length c] 24 (0, 0)) := ⟨_, rfl⟩
  rw [← hgb, ← hw1] at H0
  rw [show Value.pointer (some (⟨w.heap.size, 0, none⟩ : Addr)) = Value.pointer (some ⟨gb, 0, none⟩) by rw [hgb], ← hw1]
  clear hgb hw1 c0
  refine (preds_any A c G _ H0.out.C hX.out.2.1 hX.out.2.2.1).mono ?_
  rintro e' w2 ⟨v, rfl, Rx, B2⟩
  have H2 := Aside0.mk (H0.out.step B2)
  have c0 := H2.out.cell
  clear B2 H0 Rx
  go_wp2_with fail
  clear c0
  obtain ⟨r, hr⟩ : ∃ r, chk G = r := ⟨_, rfl⟩
  have hr0 : (r != 0) = true := by have := hX.out.2.2.2; rw [hr] at this; simpa using this
  refine (check_any A c G _ H2.out.C hX.out.2.1 hX.out.2.2.1 r hr).mono ?_
  rintro e' w3 ⟨rfl, B3⟩
  have hF : Aside0 (XQ G w (.returned (.slice none 0 0)) w3) := ⟨_, [], rfl, Kd.R_nil _ _ _ _ _, .inr ⟨hX.out.2.2.2, rfl⟩, (H2.out.step B3).b⟩
  clear B3 H2
  go_wp2
  go_ret
  exact hF.out

set_option maxRecDepth 100000 in
set_option maxHeartbeats 4000000 in
theorem postdom_yes (A : Option Addr) (c : Nat) (G : List (List Int)) (w : World) (hC : Kd.C kG w A G.length G) (hc : G.length ≤ c) (hs : short G) (hl : G.length ≤ 69) (h : chk G = 0) :
    Calls Try.prog 14 #[.agg #[.slice A G.length c]] w (XQ G w) := by
  obtain ⟨P, hP⟩ : ∃ P, Aside0 (P = predL G) := ⟨_, ⟨rfl⟩⟩
  have hPl : Aside0 (P.length = G.length) := ⟨by rw [hP.out]; exact pred_len h⟩
  have hX := Aside0.mk (And.intro hc (And.intro hs (And.intro hl h)))
  have H0 := Aside0.mk (Gw.start (c := c) hC)
  have hC := Aside0.mk hC
  clear hc hs h hl
  go_enter Try.func14, Try.ntmps14
  have c0 := H0.out.cell
  go_wp2_with fail
  obtain ⟨gb, hgb⟩ : ∃ gb, Aside0 (gb = w.heap.size) := ⟨_, ⟨rfl⟩⟩
  obtain ⟨w1, hw1⟩ : ∃ w1, w1 = w.alloc (.cells #[.slice A G.length c] 24 (0, 0)) := ⟨_, rfl⟩
  rw [← hgb.out, ← hw1] at H0
  rw [show Value.pointer (some (⟨w.heap.size, 0, none⟩ : Addr)) = Value.pointer (some ⟨gb, 0, none⟩) by rw [hgb.out], ← hw1]
  have hw1s : Aside0 (gb < w1.heap.size) := ⟨by have := blk_lt' H0.out.g; exact this⟩
  clear hw1 c0
  refine (preds_any A c G _ H0.out.C hX.out.1 hX.out.2.1).mono ?_
  rintro e' w2 ⟨v, rfl, Rx, B2⟩
  rw [← hP.out] at Rx
  obtain ⟨Ap, cp, ev, hx, Cx⟩ := Kd.R_reads Rx
  rw [hPl.out] at ev
  subst ev
  have H2 := Aside0.mk (And.intro (H0.out.step B2) (And.intro (Kd.N_F (Kd.R_N Rx)) (Nat.lt_of_lt_of_le hw1s.out B2.size)))
  have c0 := H2.out.1.cell
  clear B2 H0 Rx hx Cx hw1s
  go_wp2_with fail
  clear c0
  refine (check_any A c G _ H2.out.1.C hX.out.1 hX.out.2.1 0 hX.out.2.2.2).mono ?_
  rintro e' w3 ⟨rfl, B3⟩
  have H3 := Aside0.mk (And.intro (H2.out.1.step B3) (And.intro (Kd.F_bound (Kd.F_below H2.out.2.1 B3)) (Nat.lt_of_lt_of_le H2.out.2.2 B3.size)))
  clear B3 H2
  have hne : ((G.length : Int) == 65536) = false := by have := hX.out.2.2.1; exact beq_eq_false_iff_ne.2 (by omega)
  have hl69 : G.length ≤ 69 := hX.out.2.2.1
  have c0 := H3.out.1.cell
  obtain ⟨news, hnl, hnr, hnf⟩ := Kd.reads_raw (Kd.F_rows H3.out.2.1) (fun y c hk => ⟨kG.K_len (Kd.FK_now hk), kG.K_one (Kd.FK_now hk)⟩)
  rw [hPl.out] at hnl
  have hNW := Aside0.mk (And.intro hnl (And.intro hnr hnf))
  clear hnl hnr hnf
  go_wp2_with (first
    | (at_builtin; go_loud (refine Kd.R_append_rows (Kd.raw 1) (w0 := w3.alloc (.cells #[] 28)) 0 (by rfl) (.tmp 20) (.tmp 21) 22 28 (.slice none 0 0) 24 (by rfl) Try.underlying22 info28 rfl (by decide) (by decide) (.slice (some ⟨w3.heap.size, 0, none⟩) 0 0) [] news Ap G.length cp (fun _ => True) (fun _ => False) (by rfl) (by rfl) (own_emptyK (Kd.raw 1) w3 28 _ trivial) (ReadsRow.imp_ hNW.out.2.1 (below_alloc (Below.refl _ _) _) (fun _ _ h => h)) (fun _ _ hk => hk) (fun _ hk => hk.elim) (fun _ _ => trivial) (Below.refl _ _) (Nat.zero_le _) (by simp; omega) ?_; intro v4 w4 hN4 hB4 hg4 hat4; rw [List.nil_append] at hN4))
    | (at_builtin; go_loud (refine Kd.R_append (Kd.raw 1) (w0 := w4) 0 (by rfl) (.tmp 22) (.tmp 23) 22 28 (.slice none 0 0) 24 (by rfl) Try.underlying22 info28 rfl (by decide) (by decide) v4 news [.slice none 0 0] [.slice none 0 0] (fun _ => True) (fun _ => False) (by rfl) (by rfl) ⟨rfl, rfl, by simp [Value.oneCell']⟩ (fun _ hk => hk.elim) (fun _ _ => trivial) hN4 (Below.refl _ _) (Nat.zero_le _) (by rw [hNW.out.1]; omega) ?_; intro v5 w5 hN5 hB5 hg5 hat5; obtain ⟨go, CC, ev, _⟩ := Kd.R_form hN5 (by simp); rw [List.length_append, hNW.out.1, List.length_singleton] at ev; subst ev; obtain ⟨cs, hXS⟩ := xs_start H3.out.1 hPl.out hNW.out.1 hNW.out.2.2 hg4 hat4 hN5 hg5 hat5; have hXS := Aside0.mk hXS; have hI0 := Aside0.mk (XO.start hXS.out); have c1 := hI0.out.gc hXS.out; clear hN4 hB4 hg4 hat4 hN5 hB5 hg5 hat5 c0)))
  clear hne
  obtain ⟨gq, hgq⟩ : ∃ gq, gq = w5.heap.size := ⟨_, rfl⟩
  obtain ⟨W0, hW0⟩ : ∃ W0, W0 = w5.alloc (.cells #[.slice (some ⟨go, 0, none⟩) (G.length + 1) CC] 24 (0, 0)) := ⟨_, rfl⟩
  rw [← hgq, ← hW0] at hXS
  rw [← hW0] at hI0 c1
  have c2 : Aside0 (W0.heap.size = W0.heap.size) := ⟨rfl⟩
  rw [show w5.alloc (.cells #[.slice (some ⟨go, 0, none⟩) (G.length + 1) CC] 24 (0, 0)) = W0 from hW0.symm, show w5.heap.size = gq from hgq.symm]
  clear hW0 hgq H3 c2 c1
  have hI1 : Aside0 (XO w W0 W0 go G.length cs none 0 (sinkU G 0)) := hI0
  clear hI0
  go_loopg [29] G.length (fun q v wi => ∃ (i : Nat) (AS : Option Addr) (cS : Nat), i + q = G.length ∧ v = .int .i64 (i : Int) ∧ Aside0 (XO w W0 wi go G.length cs AS cS (sinkU G i)))
  case atStart => exact ⟨0, none, 0, by omega, rfl, hI1⟩
  case round =>
    obtain ⟨i, AS, cS, hi, rfl, hJ⟩ := hrel
    clear hI1
    by_cases hlt : i < G.length
    · have hlti : (i : Int) < G.length := by omega
      obtain ⟨gk1, rfl⟩ : ∃ q, gk = q + 1 := ⟨gk - 1, by omega⟩
      have hi1 : i + 1 + gk1 = G.length := by omega
      have hgk1 : gk1 < gk1 + 1 := by omega
      obtain ⟨ad, Ar, cr, eA, x0⟩ := row_at (Kd.C_below hC.out (hJ.out.below hXS.out)) i hlt
      subst eA
      have hsu := sinkU_succ G i
      by_cases hz : (rd_L1 G (i : Int)).length = 0
      · rw [if_pos hz] at hsu
        rw [hz] at x0
        have c1 := hJ.out.qc hXS.out
        obtain ⟨c2, c3⟩ := hJ.out.oc hXS.out
        have hsl := sinkU_len G i
        obtain ⟨S, hS⟩ : ∃ S, sinkU G i = S := ⟨_, rfl⟩
        rw [hS] at hJ hsu c2 hsl
        have hsu := Aside0.mk hsu
        clear hz hS
        have hJd := hJ.out.step hXS.out (below_drew (Below.refl wr.heap.size wr))
        have hQ := Aside0.mk (And.intro hJ.out.R (And.intro hJ.out.kp.size hJd))
        have hJa := hJ.out.step hXS.out (below_alloc (Below.refl wr.heap.size wr) (.cells #[.int .i64 (i : Int)] 3 (0, 0)))
        have c4 := hJa.qc hXS.out
        have c5 := (hJa.oc hXS.out).1
        clear hJd hJ hJa
        have hidx : (G.length : Int) < (G.length : Int) + 1 := by omega
        go_wp2_with fail
        go_region_law (first
          | ((rw [show (wr.alloc (.cells #[.int .i64 (i : Int)] 3)).drew = wr.drew.alloc (.cells #[.int .i64 (i : Int)] 3) from rfl]; refine Kd.R_append_step (Kd.int .i64) (w0 := wr) 0 (by rfl) (.tmp 44) (.tmp 46) 28 3 (.int .i64 0) 8 (by rfl) Try.underlying28 info3 rfl (by decide) (by decide) (.slice AS S.length cS) S (i : Int) [.int .i64 (i : Int)] (fun k => W0.heap.size ≤ k) (fun _ => False) (by rfl) (by rfl) (by rfl) ?_ ?_ ?_ ?_ (Nat.zero_le _) ?_ ?_)
             · intro k hk; exact hk.elim
             · intro k hk; exact Nat.le_trans hQ.out.2.1 hk
             · exact Kd.R_drewN hQ.out.1 _
             · exact ((Kp.refl (fun _ => False) wr).drewN _).belowB (fun _ h => h.elim) (Nat.zero_le _)
             · omega
             intro v1 wa hRA hBA hgA hatA
             obtain ⟨A1, c1, ev, _, _⟩ := Kd.R_reads hRA
             rw [List.length_append, List.length_singleton] at ev
             subst ev
             obtain ⟨z1, z2, z3⟩ := hQ.out.2.2.far hXS.out hgA
             have hRA1 := Aside0.mk hRA
             clear hRA hBA))
        all_goals
          go_wp2
          have hI := hQ.out.2.2.put hXS.out hgA (A1 := A1) (c1 := c1) (S1 := S ++ [(i : Int)]) (by rw [List.length_append, List.length_singleton]; exact hRA1.out)
          rw [← hsu.out] at hI
          have hI := Aside0.mk hI
          rw [show S.length + 1 = (sinkU G (i + 1)).length by rw [hsu.out, List.length_append]; rfl]
          clear hRA1 hgA hatA z1 z2 z3 c2 c3 c4 c5 hidx hQ
          go_roundg gk1
          case rel => exact ⟨i + 1, A1, _, hi1, by go_num, hI⟩
          case measure => exact hgk1
      · rw [if_neg hz, List.append_nil] at hsu
        obtain ⟨z, hzz⟩ : ∃ z, (rd_L1 G (i : Int)).length = z := ⟨_, rfl⟩
        rw [hzz] at x0 hz
        have e1 : ((z : Int) == 0) = false := beq_eq_false_iff_ne.2 (by omega)
        have hI : Aside0 (XO w W0 wr go G.length cs AS cS (sinkU G (i + 1))) := ⟨by rw [hsu]; exact hJ.out⟩
        clear hJ hsu hz hzz
        go_wp2_with fail
        go_roundg gk1
        case rel => exact ⟨i + 1, AS, cS, hi1, by go_num, hI⟩
        case measure => exact hgk1
    · have hie : i = G.length := by omega
      subst hie
      have c1 := hJ.out.qc hXS.out
      have hb := build_any (some ⟨go, 0, none⟩) CC (postG G) (G.length : Int) wr (by rw [postG_len hX.out.2.2.2]; have h9 := hJ.out.C hXS.out (by omega); rw [hP.out] at h9; exact h9) (by rw [postG_len hX.out.2.2.2]; obtain ⟨_, _, hNR, _⟩ := hXS.out.N; exact (Kd.R_reads' hNR).2.1) (postG_short hX.out.2.2.2 hX.out.2.2.1) (by rw [postG_len hX.out.2.2.2]; omega)
      rw [postG_len hX.out.2.2.2] at hb
      have hb := Aside0.mk hb
      have hbl := Aside0.mk (hJ.out.below hXS.out)
      clear hJ
      go_wp2_with fail
      refine hb.out.mono ?_
      rintro e' w9 ⟨v, l, rfl, hR, hB, hb9⟩
      have hF : Aside0 (XQ G w (.returned v) w9) := ⟨v, l, rfl, Kd.R_mono hR (fun k hk => Nat.le_trans hbl.out.size hk), .inl ⟨hX.out.2.2.2, hB⟩, hbl.out.trans (hb9.mono hbl.out.size)⟩
      clear hR hB hb9 hb
      go_wp2
      go_ret
      exact hF.out
theorem postdom_any (A : Option Addr) (c : Nat) (G : List (List Int)) (w : World) (hC : Kd.C kG w A G.length G) (hc : G.length ≤ c) (hs : short G) (hl : G.length ≤ 69) :
    Calls Try.prog 14 #[.agg #[.slice A G.length c]] w (XQ G w) := by
  by_cases h : chk G = 0
  · exact postdom_yes A c G w hC hc hs hl h
  · exact postdom_no A c G w hC hc hs h
end Go.Proofs.Ytbphjbfnnhfhlaa
end

section
/- What works answers: the document's fixed results, plain facts and literals. -/
set_option linter.unusedVariables false
set_option linter.unusedSimpArgs false
set_option linter.unusedSectionVars false
namespace Go.Proofs.Ytbphjbfnnhfhlaa
open Go.RowKit Go.Proofs.YtbphjbfnnhfhlaaW.PrintWords Go.Proofs.Ytbphjbfnnhfhlaa.PDigraphTells Mem

theorem eqi_loop (l m : List Int) (h : l.length = m.length) (hn : l.length ≤ 140737488355328) : ∀ (d i k : Nat), i + d = l.length → d < k → slices_Equal_int_int.l0 k l m (l.length : Int) (i : Int) = some (decide (l.drop i = m.drop i)) := by
  intro d
  induction d with
  | zero =>
    intro i k hi hk
    obtain ⟨k, rfl⟩ : ∃ m, k = m + 1 := ⟨k - 1, by omega⟩
    simp only [slices_Equal_int_int.l0]
    rw [if_neg (by omega), List.drop_of_length_le (by omega), List.drop_of_length_le (by omega)]
    simp
  | succ d ih =>
    intro i k hi hk
    obtain ⟨k, rfl⟩ : ∃ m, k = m + 1 := ⟨k - 1, by omega⟩
    have hlt : i < l.length := by omega
    have hlt2 : i < m.length := by omega
    have hr : rd l (i : Int) = l[i] := by simp [rd, hlt]
    have hr2 : rd m (i : Int) = m[i] := by simp [rd, hlt2]
    simp only [slices_Equal_int_int.l0]
    rw [if_pos (by omega), if_pos (by omega), if_pos (by omega), if_pos (by omega), hr, hr2, List.drop_eq_getElem_cons hlt, List.drop_eq_getElem_cons hlt2]
    by_cases e : l[i] = m[i]
    · rw [if_pos e]
      have e1 : wrap64 ((i : Int) + 1) = ((i + 1 : Nat) : Int) := by unfold wrap64; omega
      rw [e1, ih (i + 1) k (by omega) (by omega)]
      simp only [List.cons.injEq, e, true_and]
    · rw [if_neg e, decide_eq_false (fun h => e (List.cons.inj h).1)]
theorem eqi_f (l m : List Int) (hn : l.length ≤ 140737488355328) : slices_Equal_int_int.f (l.length + 1) l m = some (decide (l = m)) := by
  unfold slices_Equal_int_int.f
  by_cases h : (l.length : Int) = (m.length : Int)
  · rw [if_pos h, show (0 : Int) = ((0 : Nat) : Int) from rfl, eqi_loop l m (by omega) hn l.length 0 _ (by omega) (by omega)]
    simp
  · rw [if_neg h, decide_eq_false (fun e => h (by rw [e]))]
theorem eqi_any (c0 c1 : Nat) (A0 A1 : Option Addr) (l m : List Int) (w : World) (h0 : Kd.C (Kd.int .i64) w A0 l.length l) (h1 : Kd.C (Kd.int .i64) w A1 m.length m) (g0 : l.length ≤ c0) (g1 : m.length ≤ c1) (hl : l.length ≤ 1000000) (b : Bool) (hb : decide (l = m) = b) :
    Calls Try.prog 11 #[.slice A0 l.length c0, .slice A1 m.length c1] w fun e w' => e = .returned (.bool b) ∧ Below w.heap.size w w' := by
  subst hb
  refine (slices_Equal_int_int.calls (l.length + 1) A0 c0 l A1 c1 m _ w h0 g0 h1 g1 (eqi_f l m (by omega))).mono ?_
  rintro e w' ⟨rfl, hd⟩
  obtain ⟨n, rfl⟩ := hd.out
  exact ⟨rfl, pw_below_drewN (Below.refl _ _) _⟩
theorem lit_rows (w : World) (cs : Array Value) (e : Nat) (xs : List (List Int)) (g : Nat) (hg : w.heap.size = g) (hm : xs.length ≤ 1000) (h : ∀ (j : Nat) (x : List Int), xs[j]? = some x → ∃ A c, cs[j]? = some (.slice A x.length c) ∧ x.length ≤ c ∧ Kd.C (Kd.int .i64) w A x.length x) : Kd.C kG (w.alloc (.cells cs e (0, 0))) (some ⟨g, 0, none⟩) xs.length xs := by
  subst hg
  refine ⟨rfl, by omega, fun _ => ⟨_, rfl, fun j p hj => ?_⟩⟩
  obtain ⟨A, c, h1, h2, h3⟩ := h j p hj
  refine ⟨[.slice A p.length c], rfl, ⟨A, c, rfl, h2, Kd.C_alloc h3 _⟩, fun i u hu => ?_⟩
  rcases i with _ | i
  · simp at hu
    subst hu
    rw [show kG.sz = 1 from rfl, Nat.mul_one, Nat.add_zero, show (⟨w.heap.size, 0, none⟩ : Addr).add j = ⟨w.heap.size, j, none⟩ from by rcases j with _ | j <;> simp [Addr.add]]
    exact Mem.cell_at (heap_alloc_new w _) h1
  · simp at hu
def G1 : List (List Int) := [[1, 2], [3], [3], [1]]
def G2 : List (List Int) := [[1], [2], []]
theorem g1_ok : chk G1 = 0 ∧ isNode G1 0 := by decide
theorem g2_ok : chk G2 = 0 := by decide
theorem g2_post : postG G2 = [[], [0], [1], [2]] := by decide +kernel
theorem g2p_ok : chk (postG G2) = 0 ∧ isNode (postG G2) 3 := by rw [g2_post]; decide
theorem ra_self {ad : Int → List Int} {e x : Int} : ¬ RA ad e e x := by
  intro h
  induction h with
  | base h => exact h rfl
  | step _ _ _ ih => exact ih
theorem idm1 : Idm G1 0 [0, 0, 0, 0] := by
  have r0 : Grf.Reach (adj G1) 0 0 := .refl _
  refine ⟨rfl, fun x hx hr => ?_, rfl, fun x hx hne => ?_⟩
  · exfalso
    obtain ⟨a, b⟩ := hx
    have b' : x < 4 := b
    have r1 : Grf.Reach (adj G1) 0 1 := r0.tail (by decide)
    have r2 : Grf.Reach (adj G1) 0 2 := r0.tail (by decide)
    have r3 : Grf.Reach (adj G1) 0 3 := r1.tail (by decide)
    have : x = 0 ∨ x = 1 ∨ x = 2 ∨ x = 3 := by omega
    rcases this with rfl | rfl | rfl | rfl
    · exact hr r0
    · exact hr r1
    · exact hr r2
    · exact hr r3
  · have hn := reach_node g1_ok hx
    obtain ⟨a, b⟩ := hn
    have b' : x < 4 := b
    have hc : x = 1 ∨ x = 2 ∨ x = 3 := by omega
    have e0 : rd [0, 0, 0, 0] x = 0 := by rcases hc with rfl | rfl | rfl <;> rfl
    rw [e0]
    refine ⟨⟨hx, ra_self⟩, Ne.symm hne, fun v hv hvx => ⟨r0, fun h9 => ?_⟩⟩
    have h0 := h9.ne
    apply hv.2
    rcases hc with rfl | rfl | rfl
    · exact .step h9 (by decide) (Ne.symm hvx)
    · exact .step h9 (by decide) (Ne.symm hvx)
    · by_cases e1 : v = 1
      · exact .step (.step h9 (x := 2) (by decide) (by omega)) (by decide) (Ne.symm hvx)
      · exact .step (.step h9 (x := 1) (by decide) (Ne.symm e1)) (by decide) (Ne.symm hvx)
theorem idm2 : Idm (postG G2) 3 [1, 2, 3, 3] := by
  have hk := g2p_ok
  rw [g2_post] at hk ⊢
  have r3 : Grf.Reach (adj [[], [0], [1], [2]]) 3 3 := .refl _
  have r2 : Grf.Reach (adj [[], [0], [1], [2]]) 3 2 := r3.tail (by decide)
  have r1 : Grf.Reach (adj [[], [0], [1], [2]]) 3 1 := r2.tail (by decide)
  have r0 : Grf.Reach (adj [[], [0], [1], [2]]) 3 0 := r1.tail (by decide)
  have a2 : ∀ y, RA (adj [[], [0], [1], [2]]) 3 2 y → y = 3 := by
    intro y h
    induction h with
    | base => rfl
    | step _ h1 h2 ih => subst ih; exact absurd (List.mem_singleton.1 h1) h2
  have a1 : ∀ y, RA (adj [[], [0], [1], [2]]) 3 1 y → y = 3 ∨ y = 2 := by
    intro y h
    induction h with
    | base => exact .inl rfl
    | step _ h1 h2 ih =>
      rcases ih with rfl | rfl
      · exact .inr (List.mem_singleton.1 h1)
      · exact absurd (List.mem_singleton.1 h1) h2
  have d33 : ∀ x, Grf.Reach (adj [[], [0], [1], [2]]) 3 x → domG [[], [0], [1], [2]] 3 3 x := fun x hx => ⟨hx, ra_self⟩
  refine ⟨rfl, fun x hx hr => ?_, rfl, fun x hx hne => ?_⟩
  · exfalso
    obtain ⟨a, b⟩ := hx
    have b' : x < 4 := b
    have : x = 0 ∨ x = 1 ∨ x = 2 ∨ x = 3 := by omega
    rcases this with rfl | rfl | rfl | rfl
    · exact hr r0
    · exact hr r1
    · exact hr r2
    · exact hr r3
  · have hn := reach_node hk hx
    obtain ⟨a, b⟩ := hn
    have b' : x < 4 := b
    have hc : x = 0 ∨ x = 1 ∨ x = 2 := by omega
    have k2 : ∀ v, v ≠ 3 → v ≠ 2 → RA (adj [[], [0], [1], [2]]) 3 v 2 := fun v h1 h2 => .step (.base (Ne.symm h1)) (by decide) (Ne.symm h2)
    have k1 : ∀ v, v ≠ 3 → v ≠ 2 → v ≠ 1 → RA (adj [[], [0], [1], [2]]) 3 v 1 := fun v h1 h2 h3 => .step (k2 v h1 h2) (by decide) (Ne.symm h3)
    have k0 : ∀ v, v ≠ 3 → v ≠ 2 → v ≠ 1 → v ≠ 0 → RA (adj [[], [0], [1], [2]]) 3 v 0 := fun v h1 h2 h3 h4 => .step (k1 v h1 h2 h3) (by decide) (Ne.symm h4)
    rcases hc with rfl | rfl | rfl
    · rw [show rd [1, 2, 3, 3] 0 = 1 from rfl]
      refine ⟨⟨r0, fun h => by have := a1 _ h; omega⟩, by decide, fun v hv hvx => ?_⟩
      by_cases e3 : v = 3
      · rw [e3]; exact d33 _ r1
      · by_cases e2 : v = 2
        · rw [e2]; exact ⟨r1, fun h => by have := a2 _ h; omega⟩
        · by_cases e1 : v = 1
          · rw [e1]; exact ⟨r1, fun h => h.ne rfl⟩
          · exact absurd (k0 v e3 e2 e1 hvx) hv.2
    · rw [show rd [1, 2, 3, 3] 1 = 2 from rfl]
      refine ⟨⟨r1, fun h => by have := a2 _ h; omega⟩, by decide, fun v hv hvx => ?_⟩
      by_cases e3 : v = 3
      · rw [e3]; exact d33 _ r2
      · by_cases e2 : v = 2
        · rw [e2]; exact ⟨r2, fun h => h.ne rfl⟩
        · exact absurd (k1 v e3 e2 hvx) hv.2
    · rw [show rd [1, 2, 3, 3] 2 = 3 from rfl]
      refine ⟨d33 _ r2, by decide, fun v hv hvx => ?_⟩
      by_cases e3 : v = 3
      · rw [e3]; exact d33 _ r3
      · exact absurd (k2 v e3 hvx) hv.2
theorem bld1 {l : List Int} (h : Bld G1 0 l) : l = [0, 0, 0, 0] := h.uniq (.inl ⟨g1_ok, idm1⟩)
theorem bld2 {l : List Int} (h : Bld (postG G2) (G2.length : Int) l) : l = [1, 2, 3, 3] := Bld.uniq h (.inl ⟨g2p_ok, idm2⟩)
theorem tree1 : Tree [0, 0, 0, 0] := by
  have hc : ∀ x : Int, idx [0, 0, 0, 0] x → x = 0 ∨ x = 1 ∨ x = 2 ∨ x = 3 := by
    rintro x ⟨a, b⟩
    have b' : x < 4 := b
    omega
  refine ⟨fun x hx => ?_, fun x hx _ => ?_, by decide⟩
  · rcases hc x hx with rfl | rfl | rfl | rfl <;> exact ⟨by decide, by decide⟩
  · have u0 : Up [0, 0, 0, 0] 0 0 := .root (by decide) rfl
    rcases hc x hx with rfl | rfl | rfl | rfl
    · exact ⟨0, u0⟩
    · exact ⟨1, .step (by decide) (by decide) u0⟩
    · exact ⟨1, .step (by decide) (by decide) u0⟩
    · exact ⟨1, .step (by decide) (by decide) u0⟩
theorem int1 : InT [0, 0, 0, 0] 1 2 := ⟨tree1, by decide, by decide, by decide, by decide⟩
theorem low1 {r : Int} (h : Low [0, 0, 0, 0] 1 2 r) : r = 0 := by
  have key : ∀ x : Int, On [0, 0, 0, 0] r x → (x = 1 → r = 1 ∨ r = 0) ∧ (x = 2 → r = 2 ∨ r = 0) ∧ (x = 0 → r = 0) := by
    intro x h
    induction h with
    | refl => exact ⟨fun e => .inl e, fun e => .inl e, fun e => e⟩
    | @step y hi e u ih =>
      refine ⟨fun e1 => ?_, fun e1 => ?_, fun e1 => ?_⟩
      · subst e1; exact .inr (ih.2.2 rfl)
      · subst e1; exact .inr (ih.2.2 rfl)
      · subst e1; exact absurd rfl e
  have h1 := (key 1 h.1).1 rfl
  have h2 := (key 2 h.2.1).2.1 rfl
  omega
theorem pre1 : preL [0, 0, 0, 0] = [0, 1, 2, 3] := by decide +kernel
end Go.Proofs.Ytbphjbfnnhfhlaa
end

