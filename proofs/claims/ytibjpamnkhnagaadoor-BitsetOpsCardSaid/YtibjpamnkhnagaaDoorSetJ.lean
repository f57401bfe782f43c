/- The law's elems: what All yields, as a list. -/
import Derived.Test.YtibjpamnkhnagaaDoorSetI
import Derived.RangeFuncBox
import Derived.Maps.AppendAt
set_option linter.unusedVariables false
set_option linter.unusedSimpArgs false
namespace Go.Proofs.YtibjpamnkhnagaaDoor
open Go.RowKit Go.Shelf Go.Proofs.YtibjpamnkhnagaaDoorW.PrintWords Mem Bit
attribute [local go_sem] Oper.semAt_some

theorem info3 : (Tryd.prog.info? 3).map (fun i => (i.zero, i.size, i.bytes)) = some (some (.int .i64 0), 1, 8) := by kernel_rfl
theorem elemsO_length (o : Option (List Bool)) : (elemsO o).length ≤ lenO o := by
  cases o with
  | none => simp [elemsO]
  | some bs => exact elems_length bs

theorem func_nil (w : World) (B : Nat) : (binOp .eql 30 (.func (.func 36) #[] #[.pointer (some ⟨B, 0, none⟩)]) .nilFunc).run Tryd.prog w = .ok (.bool false) w := by kernel_rfl
theorem own_and {β : Type} {I I' : β → World → Prop} (h : Own I) (h' : Own I') : Own (fun s W => I s W ∧ I' s W) := fun s W W' row hs hg hr => ⟨h s W W' row hs.1 hg hr, h' s W W' row hs.2 hg hr⟩

set_option maxRecDepth 100000 in
set_option maxHeartbeats 2000000 in
theorem elems_any (v : Option Addr) (o : Option (List Bool)) (w : World) (hP : PS w (fun k => k < w.heap.size) v o) (hl : lenO o ≤ 65536) (hD : DB w) :
    Calls Tryd.prog 31 #[.pointer v] w fun e w' => ∃ u, e = .returned (.tuple #[u, .bool true]) ∧ Kd.R (Kd.int .i64) 3 w' 0 (fun k => w.heap.size ≤ k) u (elemsO o) ∧ Below w.heap.size w w' := by
  have hpos := hD.pos
  obtain ⟨i0, hi, hz0, hz1, hz2⟩ := info_parts info3
  refine (callsIn_wide (n := 4)).1 ?_
  have h1 : 1 ≤ 4 := by omega
  have hnf := func_nil
  have hX := Aside0.mk (And.intro hP hD)
  clear hP hD
  refine callsIn_of_wp_marks Tryd.func31 rfl trivial ?_ rfl
  simp only [Tryd.ntmps31, List.size_toArray, List.length_cons, List.length_nil, Nat.reduceAdd, Nat.reduceSub, Array.replicate_succ, Array.replicate_zero, List.push_toArray, List.append_toArray, List.nil_append, List.cons_append]
  gi_wp2_with (refine ⟨trivial, ?_⟩; gi_at_call 14; refine (all_calls _ v _).mono ?_; rintro e w' ⟨rfl, rfl⟩)
  clear hnf
  have b0 := Boxed.new w 22 (.slice none 0 0)
  have b1 := Boxed.new (w.alloc (.cells #[.slice none 0 0] 22)) 4 (.bool false)
  have b2 := Boxed.new ((w.alloc (.cells #[.slice none 0 0] 22)).alloc (.cells #[.bool false] 4)) 24 (.pointer v)
  have b3 := Boxed.new (((w.alloc (.cells #[.slice none 0 0] 22)).alloc (.cells #[.bool false] 4)).alloc (.cells #[.pointer v] 24)) 22 (.slice none 0 0)
  simp only [World.size_alloc] at b1 b2 b3
  obtain ⟨W0, hW0⟩ : ∃ W0, (((w.alloc (.cells #[.slice none 0 0] 22)).alloc (.cells #[.bool false] 4)).alloc (.cells #[.pointer v] 24)).alloc (.cells #[.slice none 0 0] 22) = W0 := ⟨_, rfl⟩
  have hs0 : W0.heap.size = w.heap.size + 4 := by rw [← hW0]; simp
  have hB0 : Below w.heap.size w W0 := by rw [← hW0]; exact ((((Below.refl _ w).alloc (Nat.le_refl _) _).alloc (by simp) _).alloc (by simp; omega) _).alloc (by simp; omega) _
  have g0 : Boxed W0 w.heap.size 22 (.slice none 0 0) := by rw [← hW0]; exact ((b0.alloc _).alloc _).alloc _
  have g1 : Boxed W0 (w.heap.size + 1) 4 (.bool false) := by rw [← hW0]; exact (b1.alloc _).alloc _
  have g2 : Boxed W0 (w.heap.size + 1 + 1) 24 (.pointer v) := by rw [← hW0]; exact b2.alloc _
  have g3 : Boxed W0 (w.heap.size + 1 + 1 + 1) 22 (.slice none 0 0) := by rw [← hW0]; exact b3
  clear b0 b1 b2 b3
  rw [hW0]
  clear hW0
  refine wpIn_rangeFunc_ownG rfl h1 (gf := 36) (lb := #[.pointer (some ⟨w.heap.size + 1 + 1, 0, none⟩)]) rfl trivial (enters_of Tryd.func36 (by kernel_rfl) rfl)
    (all_stops (4 - 1) (by omega) (w.heap.size + 1 + 1) w.heap.size v o W0 (by omega) hpos (by omega) g2.cell (hX.out.1.step (fun k hk _ => hB0.block k hk)) (hX.out.2.below hB0)) belowK_t (belowK_b (by omega)) (Below.refl _ _) (fun _ => rfl)
    (fun pre W => ((∃ u, Boxed W (w.heap.size + 1 + 1 + 1) 22 u ∧ W.ownsRow w.heap.size 3 1 u pre.length (pre.map (Value.int .i64)) ∧ True) ∧ (Boxed W w.heap.size 22 (.slice none 0 0) ∧ Boxed W (w.heap.size + 1) 4 (.bool false))) ∧ Below w.heap.size w W)
    (fun _ _ _ => False)
    (OwnFrom.and (Own.from (own_and (holdsRow_own w.heap.size (w.heap.size + 1 + 1 + 1) 22 3 1 (fun pre : List Int => pre.length) (fun pre => pre.map (Value.int .i64)) (fun _ _ => True)) (own_and (boxed_own w.heap.size 22 (fun _ => .slice none 0 0)) (boxed_own (w.heap.size + 1) 4 (fun _ => .bool false)))) _) (ownFrom_below (Nat.le_refl _) (by omega)))
    (fun _ _ _ _ _ hs _ _ => hs)
    ⟨⟨⟨_, g3, World.ownsRow_nil _ _ _ _, trivial⟩, g0, g1⟩, hB0⟩
    (fun x => { tmps := #[.pointer v, undef, .pointer (some ⟨w.heap.size, 0, none⟩), .pointer (some ⟨w.heap.size + 1, 0, none⟩), .func (.func 36) #[] #[.pointer (some ⟨w.heap.size + 1 + 1, 0, none⟩)], .pointer (some ⟨w.heap.size + 1 + 1 + 1, 0, none⟩), .int .i64 x, .pointer v, .func (.func 36) #[] #[.pointer (some ⟨w.heap.size + 1 + 1, 0, none⟩)], .func (.func 36) #[] #[.pointer (some ⟨w.heap.size + 1 + 1, 0, none⟩)], .bool false, .func (.func 36) #[] #[.pointer (some ⟨w.heap.size + 1 + 1, 0, none⟩)], .int .i64 x, undef, undef, undef, undef, undef, undef, undef, undef], defers := [] }) ?assign ?body ?done ?stop
  case assign =>
    intro l x W K hK
    gi_wp2
    exact hK
  case body =>
    rintro l pre x W ⟨⟨⟨u, hv, hrow, _⟩, q0, q1⟩, hB⟩ hlt
    have hc := hv.cell
    obtain ⟨A, c, rfl⟩ := own_slice hrow
    have hle : pre.length ≤ 65536 := by omega
    have hle2 : ¬ ((70000 : Int) < pre.length) := by omega
    have hle3 : decide (70000 < pre.length) = false := by simp; omega
    clear hlt
    gi_wp2_with (gi_at_builtin; refine wpListIn_append_own _ rfl _ _ 22 rfl w.heap.size 3 i0 (.int .i64 0) 1 8 Tryd.underlying22 hi hz0 hz1 hz2 rfl (by decide) _ _ _ rfl (hrow.alloc _) ⟨W.heap.size, 0, none⟩ 1 1 [.int .i64 x] rfl rfl (cell_one_new _ _ _) (by simp [Value.oneCell']) (by unfold maxLen; omega) (by omega) (by have := hB.size; simp; omega) ?_; intro v' w1 hown' hgrow _; obtain ⟨g', cap', rfl⟩ := ownsRow_succ hown'; obtain ⟨hv1, hv2, hr2, hk2, hb2⟩ := hv.appended (by decide) hrow hB.size (by omega) hown' hgrow; have hc1 := hv1.cell; have hf1 := hv1.frozen)
    have q0' := ((q0.alloc _).kept hgrow (q0.not_row (by decide) hrow)).other (B' := w.heap.size + 1 + 1 + 1) (by omega) (.slice (some ⟨g', 0, none⟩) (pre.length + 1) cap')
    have q1' := ((q1.alloc _).kept hgrow (q1.not_row (by decide) hrow)).other (B' := w.heap.size + 1 + 1 + 1) (by omega) (.slice (some ⟨g', 0, none⟩) (pre.length + 1) cap')
    exact ⟨hk2.from _, hb2, ⟨⟨_, hv2, by simpa using hr2⟩, q0', q1'⟩, hB.trans hb2⟩
  case done =>
    rintro D ys W hD rfl ⟨⟨⟨u, hv, hrow, _⟩, q0, q1⟩, hB⟩ hK
    have hc := hv.cell
    have hc0 := q0.cell
    have hf0 := q0.frozen
    have q1a := q1.other (B' := w.heap.size) (by omega) u
    have hc1 := q1a.cell
    have hf1 := q1a.frozen
    have hX2 := Aside0.mk (And.intro hv (And.intro hrow (And.intro q0 (And.intro q1 hB))))
    obtain ⟨A, c, rfl⟩ := own_slice hrow
    clear hv hrow q0 q1 hB q1a
    gi_wp2
    obtain ⟨hv, hrow, q0, q1, hB⟩ := hX2.out
    obtain ⟨W1, hW1⟩ : ∃ W1, (W.setCell ⟨w.heap.size, 0, none⟩ (.slice A (elemsO o).length c)).setCell ⟨w.heap.size + 1, 0, none⟩ (.bool true) = W1 := ⟨_, rfl⟩
    have hK' : W1.heap[D]? = some (.deferred (some [])) := by
      rw [← hW1]
      exact ((KeepsOthers.setCell W ⟨w.heap.size, 0, none⟩ (.slice A (elemsO o).length c)).trans (KeepsOthers.setCell _ ⟨w.heap.size + 1, 0, none⟩ (.bool true))).same D _ hK rfl
    have z0 : Boxed W1 w.heap.size 22 (.slice A (elemsO o).length c) := by rw [← hW1]; exact (q0.set _).other (by omega) _
    have z1 : Boxed W1 (w.heap.size + 1) 4 (.bool true) := by rw [← hW1]; exact (q1.other (by omega) _).set _
    have zr : W1.ownsRow w.heap.size 3 1 (.slice A (elemsO o).length c) (elemsO o).length ((elemsO o).map (Value.int .i64)) := by
      rw [← hW1]
      refine (hrow.kept (grownBy_setCell' W w.heap.size _) (.inr (q0.not_row (by decide) hrow).symm)).kept (grownBy_setCell' _ (w.heap.size + 1) _) (.inr (q1.not_row (by decide) hrow).symm)
    have zb : Below w.heap.size w W1 := by
      rw [← hW1]
      exact (hB.setCell (p := ⟨w.heap.size, 0, none⟩) (Nat.le_refl _) _).setCell (p := ⟨w.heap.size + 1, 0, none⟩) (by simp) _
    rw [hW1]
    clear hW1
    refine ⟨by simp, .inl ⟨_, _, rfl, run_takeDeferred hK', ?_⟩⟩
    have y0 := cell_kept z0.cell (grownBy_putObj' W1 D (.deferred none)) (fun r e => by cases e; exact ⟨_, hK', rfl⟩)
    have y1 := cell_kept z1.cell (grownBy_putObj' W1 D (.deferred none)) (fun r e => by cases e; exact ⟨_, hK', rfl⟩)
    have yr := ownsRow_putObj zr (.deferred none) hK' rfl
    refine ⟨.tuple #[.slice A (elemsO o).length c, .bool true], ?_, _, rfl, ?_, zb.trans (belowK_b (w := w) (Nat.le_refl _) W1 D _ _ (by omega) hK' rfl rfl)⟩
    · simp [results, Tryd.f31, go_sem, y0, y1]
    · exact Kd.R_lower (Kd.R_of_own yr (fun k hk => own_base yr k hk)) (Nat.zero_le _)
  case stop =>
    rintro D c pre W _ _ h _
    exact h.elim
end Go.Proofs.YtibjpamnkhnagaaDoor
