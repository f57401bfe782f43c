/- Package bitset: All as an iterator of any set; Count. -/
import Derived.Test.YtibjpamnkhnagaaDoorSetH
set_option linter.unusedVariables false
set_option linter.unusedSimpArgs false
namespace Go.Proofs.YtibjpamnkhnagaaDoor
open Go.RowKit Go.Shelf Go.Proofs.YtibjpamnkhnagaaDoorW.PrintWords Mem Bit
attribute [local go_sem] Oper.semAt_some

def elemsO (o : Option (List Bool)) : List Int := match o with | none => [] | some bs => elems bs
def lenO (o : Option (List Bool)) : Nat := (o.getD []).length

set_option maxRecDepth 100000 in
set_option maxHeartbeats 1000000 in
theorem all1_no (n : Nat) (hn : 2 ≤ n) (l Bs : Nat) (v : Option Addr) (J : List Int → World → Prop) (W : World) (hBs : W.cell? ⟨Bs, 0, none⟩ = some (.pointer v)) (hv : VS W v false) (h0 : J [] W) :
    CallsIn Fence.wide n Tryd.prog 36 #[.func (.yield l) #[] #[], .pointer (some ⟨Bs, 0, none⟩)] W fun e W' => (∃ v, e = .returned v) ∧ J [] W' := by
  have hv' := Aside0.mk hv
  have h0' := Aside0.mk h0
  clear hv h0
  refine callsIn_of_wp Tryd.func36 rfl trivial ?_ rfl
  simp only [Tryd.ntmps36, List.size_toArray, List.length_cons, List.length_nil, Nat.reduceAdd, Nat.reduceSub, Array.replicate_succ, Array.replicate_zero, List.push_toArray, List.append_toArray, List.nil_append, List.cons_append]
  gi_wp2_with (refine ⟨trivial, (fun _ => by omega), ?_⟩; gi_at_call 34; refine (callsIn_wide.2 (valid_st v false _ hv'.out)).mono ?_; rintro e w' ⟨rfl, rfl⟩)
  refine bodyPost_ret (results_none rfl _ _ _) rfl ?_
  exact ⟨⟨_, rfl⟩, h0'.out⟩

theorem all_stops (n : Nat) (hn : 2 ≤ n) (Bs n₀ : Nat) (v : Option Addr) (o : Option (List Bool)) (w : World) (hBs : Bs < w.heap.size) (hpos : 0 < n₀) (hn₀ : n₀ ≤ w.heap.size) (hc : w.cell? ⟨Bs, 0, none⟩ = some (.pointer v)) (hP : PS w (fun k => k < n₀) v o) (hD : DB w) :
    SeqStopsK Fence.wide n Tryd.prog 36 #[.pointer (some ⟨Bs, 0, none⟩)] (fun x : Int => #[Value.int .i64 x]) (Below n₀) (fun ys => ys = elemsO o) (fun pre => ∃ rest, elemsO o = pre ++ rest) (lenO o) w := fun l J Jx W hW _ _ hY h0 => by
  have hc' := (hW.cell (p := ⟨Bs, 0, none⟩) hBs).trans hc
  have hP' : PS W (fun k => k < n₀) v o := hP.step (fun k _ hk => hW.block k hk)
  have hD' : DB W := hD.below hW
  cases o with
  | none => exact (all1_no n hn l Bs v J W hc' hP'.vs h0).mono fun e W' ⟨he, hj⟩ => ⟨he, .inl ⟨_, rfl, hj⟩⟩
  | some bs =>
    rcases hP'.ex with ⟨_, h⟩ | ⟨p, _, h, _⟩ | ⟨p, bs', rfl, h, hB⟩
    · cases h
    · cases h
    · obtain rfl : bs = bs' := Option.some.inj h
      exact all1_in n hn l Bs n₀ p bs J Jx hY W hc' hB hD' hpos (Nat.le_trans hn₀ hW.size) h0

set_option maxRecDepth 100000 in
set_option maxHeartbeats 2000000 in
theorem count_any (v : Option Addr) (o : Option (List Bool)) (w : World) (hP : PS w (fun k => k < w.heap.size) v o) (hl : lenO o ≤ 65536) (hD : DB w) :
    Calls Tryd.prog 30 #[.pointer v] w fun e w' => e = .returned (.int .i64 ((elemsO o).length : Nat)) ∧ Below w.heap.size w w' := by
  have hpos := hD.pos
  refine (callsIn_wide (n := 4)).1 ?_
  have h1 : 1 ≤ 4 := by omega
  have hX := Aside0.mk (And.intro hP hD)
  clear hP hD
  refine callsIn_of_wp_marks Tryd.func30 rfl trivial ?_ rfl
  simp only [Tryd.ntmps30, List.size_toArray, List.length_cons, List.length_nil, Nat.reduceAdd, Nat.reduceSub, Array.replicate_succ, Array.replicate_zero, List.push_toArray, List.append_toArray, List.nil_append, List.cons_append]
  gi_wp2_with (refine ⟨trivial, ?_⟩; gi_at_call 14; refine (all_calls _ v _).mono ?_; rintro e w' ⟨rfl, rfl⟩)
  have bS := Boxed.new w 3 (.int .i64 0)
  have bN := Boxed.new (w.alloc (.cells #[.int .i64 0] 3)) 24 (.pointer v)
  rw [World.size_alloc] at bN
  have hB0 : Below w.heap.size w ((w.alloc (.cells #[.int .i64 0] 3)).alloc (.cells #[.pointer v] 24)) := ((Below.refl _ w).alloc (Nat.le_refl _) _).alloc (by simp) _
  refine wpIn_rangeFunc_ownG rfl h1 (gf := 36) (lb := #[.pointer (some ⟨w.heap.size + 1, 0, none⟩)]) rfl trivial (enters_of Tryd.func36 (by kernel_rfl) rfl)
    (all_stops (4 - 1) (by omega) (w.heap.size + 1) w.heap.size v o _ (by simp) hpos (by simp; omega) bN.cell (hX.out.1.step (fun k hk _ => hB0.block k hk)) (hX.out.2.below hB0)) belowK_t (belowK_b (by simp; omega)) (Below.refl _ _) (fun _ => rfl)
    (fun pre W => (W.cell? ⟨w.heap.size, 0, none⟩ = some (.int .i64 (pre.length : Nat)) ∧ W.frozen? ⟨w.heap.size, 0, none⟩ = false) ∧ Below w.heap.size w W)
    (fun _ _ _ => False)
    (OwnFrom.and (Own.from (fun s A B row hs hg hr => ⟨cell_kept hs.1 hg hr, (frozen_kept hs.1 hg hr).trans hs.2⟩) _) (ownFrom_below (Nat.le_refl _) (by simp; omega)))
    (fun _ _ _ _ _ hs _ _ => hs)
    ⟨⟨(bS.alloc _).cell, (bS.alloc _).frozen⟩, hB0⟩
    (fun x => { tmps := #[.pointer v, undef, .int .i64 0, .pointer (some ⟨w.heap.size, 0, none⟩), .pointer v, .func (.func 36) #[] #[.pointer (some ⟨w.heap.size + 1, 0, none⟩)], .int .i64 x, undef, undef, undef], defers := [] }) ?assign ?body ?done ?stop
  case assign =>
    intro l x W K hK
    gi_wp2
    simpa using hK
  case body =>
    rintro l pre x W ⟨⟨hc, hf⟩, hB⟩ hlt
    have hlt2 : (pre.length : Int) < 65536 := by omega
    gi_wp2
    exact ⟨(KeepsOthers.setCell _ _ _).from _, (Below.refl w.heap.size W).setCell (p := ⟨w.heap.size, 0, none⟩) (Nat.le_refl _) _, ⟨by rw [List.length_append]; exact World.cell?_setCell_same' _ _ _ (by rw [hc]; rfl), by rw [World.frozen?_setCell]; exact hf⟩, hB.setCell (p := ⟨w.heap.size, 0, none⟩) (Nat.le_refl _) _⟩
  case done =>
    rintro D ys W hD rfl ⟨⟨hc, _⟩, hB⟩ hK
    gi_wp2
    refine ⟨by simp, .inl ⟨_, _, rfl, run_takeDeferred hK, ?_⟩⟩
    exact ⟨_, results_tmp rfl _ _ _, rfl, hB.trans (belowK_b (w := w) (Nat.le_refl _) W D _ _ (by simp at hD; omega) hK rfl rfl)⟩
  case stop =>
    rintro D c pre W _ _ h _
    exact h.elim
end Go.Proofs.YtibjpamnkhnagaaDoor
