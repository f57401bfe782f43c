/- Package bitset: All: the iterator's walk. -/
import Derived.Test.YtibjpamnkhnagaaDoorSetG
set_option linter.unusedVariables false
set_option linter.unusedSimpArgs false
namespace Go.Proofs.YtibjpamnkhnagaaDoor
open Go.RowKit Go.Shelf Go.Proofs.YtibjpamnkhnagaaDoorW.PrintWords Mem Bit
attribute [local go_sem] Oper.semAt_some

theorem wfr_step (bs : List Bool) (k t V : Nat) (hV : V = wfr bs k t) (h : V ≠ 0) : ∃ c V', Lib.ctz 64 V = c ∧ c < 64 ∧ 64 * k + c < bs.length ∧ V' = wfr bs k (c + 1) ∧
    elemsTo bs (64 * k + (c + 1)) = elemsTo bs (64 * k + t) ++ [64 * (k : Int) + (c : Int)] ∧ bits .and .u64 (V : Int) ((V : Int) - 1) = (V' : Int) ∧ V' < V ∧ (elemsTo bs (64 * k + t)).length < bs.length := by
  rw [hV] at h
  obtain ⟨c, h1, h2, h3, h4, h5, h6, h7⟩ := wfr_next bs k t h
  have h8 : 64 * k + c < bs.length := by
    rcases Nat.lt_or_ge (64 * k + c) bs.length with h | h
    · exact h
    · rw [getD_past bs _ h] at h4; cases h4
  rw [← hV] at h1 h6 h7
  have h9 : 0 < V := by rw [hV]; omega
  obtain ⟨V', hV'⟩ : ∃ V', V' = wfr bs k (c + 1) := ⟨_, rfl⟩
  rw [← hV'] at h6 h7
  refine ⟨c, V', h1, h3, h8, hV', ?_, ?_, h7, ?_⟩
  · rw [← Nat.add_assoc, elemsTo_succ, h4, h5]
    simp only [if_true]
    congr 1
  · rw [← h6]
    have e : ((V : Int) - 1) = ((V - 1 : Nat) : Int) := by omega
    rw [e]
  · have := elemsTo_length bs (64 * k + c)
    rw [h5] at this
    omega

set_option maxRecDepth 100000 in
set_option maxHeartbeats 2000000 in
theorem all1_in (n : Nat) (hn : 2 ≤ n) (l Bs n₀ p : Nat) (bs : List Bool) (J Jx : List Int → World → Prop)
    (hY : ∀ pre x W, J pre W → pre.length < bs.length → YieldAt Fence.wide (n - 1) Tryd.prog l #[.int .i64 x] W fun e W' =>
      (e = .returned (.bool true) ∧ J (pre ++ [x]) W' ∧ Below n₀ W W') ∨ (e = .returned (.bool false) ∧ Jx (pre ++ [x]) W'))
    (W : World) (hBs : W.cell? ⟨Bs, 0, none⟩ = some (.pointer (some ⟨p, 0, none⟩))) (hB : BS W (fun k => k < n₀) p bs) (hD : DB W) (hpos : 0 < n₀) (hn0 : n₀ ≤ W.heap.size) (h0 : J [] W) :
    CallsIn Fence.wide n Tryd.prog 36 #[.func (.yield l) #[] #[], .pointer (some ⟨Bs, 0, none⟩)] W fun e W' => (∃ v, e = .returned v) ∧
      ((∃ ys, ys = elems bs ∧ J ys W') ∨ (∃ pre, (∃ rest, elems bs = pre ++ rest) ∧ Jx pre W')) := by
  obtain ⟨g, cc, hp, okp, hR, hl⟩ := hB.ex
  have c0 : W.cell? ⟨p, 0, none⟩ = some (.bool true) := cell_at hp rfl
  have c2 : W.cell? ⟨p, 2, none⟩ = some (.slice (some ⟨g, 0, none⟩) (wds bs).length cc) := cell_at hp rfl
  have hg : g < n₀ ∧ g ≠ p := hR.1 g (by simp [Value.ownBlock])
  have hw : ∀ k, k < (bs.length + 63) / 64 → W.cell? ⟨g, k, none⟩ = some (.int .u64 (wd bs k : Nat)) := fun k hk => (word_at hR k hk).1
  have hdone : elemsTo bs (64 * ((bs.length + 63) / 64)) = elems bs := elemsTo_past bs _ (by omega)
  rw [wds_length] at c2
  obtain ⟨m, hm⟩ : ∃ m, m = (bs.length + 63) / 64 := ⟨_, rfl⟩
  rw [← hm] at c2 hw hdone
  have hm2 : m ≤ 1024 := by omega
  have hX := Aside0.mk (And.intro hw (And.intro hdone (And.intro hD (And.intro hg (And.intro hpos hY)))))
  have h0' := Aside0.mk h0
  have hm' := Aside0.mk hm
  clear hw hdone hD hg hpos hY h0 hp hR hB hm okp
  refine callsIn_of_wp Tryd.func36 rfl trivial ?_ rfl
  simp only [Tryd.ntmps36, List.size_toArray, List.length_cons, List.length_nil, Nat.reduceAdd, Nat.reduceSub, Array.replicate_succ, Array.replicate_zero, List.push_toArray, List.append_toArray, List.nil_append, List.cons_append]
  gi_wp2_with (refine ⟨trivial, (fun _ => by omega), ?_⟩; gi_at_call 34; refine (callsIn_wide.2 (valid_ok p _ c0)).mono ?_; rintro e w' ⟨rfl, rfl⟩)
  gi_loopw [13] (fun i wr => ∃ k : Nat, k ≤ m ∧ i = .int .i64 k ∧ Aside0 (J (elemsTo bs (64 * k)) wr ∧ Below n₀ W wr)) (fun i _ => m - (intOf i).toNat)
  case atStart => exact ⟨0, Nat.zero_le _, rfl, ⟨h0'.out, Below.refl _ _⟩⟩
  case round =>
    obtain ⟨k, hk, rfl, hJ⟩ := hrel
    by_cases hlt : k < m
    · have hc : wr.cell? ⟨g, k, none⟩ = some (.int .u64 (wd bs k : Nat)) := (hJ.out.2.cell (p := ⟨g, k, none⟩) hX.out.2.2.2.1.1).trans (hX.out.1 k hlt)
      obtain ⟨V0, hV0⟩ : ∃ V, V = wd bs k := ⟨_, rfl⟩
      rw [← hV0] at hc
      have hI0 : Aside0 (V0 = wfr bs k 0 ∧ J (elemsTo bs (64 * k + 0)) wr ∧ Below n₀ W wr) := ⟨by rw [hV0, wfr_zero], hJ.out.1, hJ.out.2⟩
      clear hV0 hJ
      have hk2 : (k : Int) ≤ 1024 := by omega
      obtain ⟨wo, hwo⟩ : ∃ wo : World, wo = wr := ⟨_, rfl⟩
      rw [← hwo] at hc hI0 ⊢
      clear hwo
      gi_wp2
      gi_loopw [4] (fun v wi => ∃ V t : Nat, t ≤ 64 ∧ v = .int .u64 (V : Int) ∧ Aside0 (V = wfr bs k t ∧ J (elemsTo bs (64 * k + t)) wi ∧ Below n₀ W wi)) (fun v _ => (intOf v).toNat)
      case atStart => exact ⟨V0, 0, by omega, rfl, hI0⟩
      case round =>
        obtain ⟨V, t, ht, rfl, hI⟩ := hrel
        by_cases hz : V = 0
        · subst hz
          have hnext : Aside0 (J (elemsTo bs (64 * (k + 1))) wr ∧ Below n₀ W wr) := ⟨by rw [wfr_done bs k t ht hI.out.1.symm]; exact hI.out.2.1, hI.out.2.2⟩
          gi_wp2
          go_roundw
          case rel => exact ⟨k + 1, by omega, by go_num, hnext⟩
          case measure => simp [intOf]; omega
        · obtain ⟨c, V', e1, hc64, hcl, e2, e3, e4, hlt2, hlen⟩ := wfr_step bs k t V hI.out.1 hz
          have hVlt : V < 18446744073709551616 := by rw [hI.out.1]; exact wfr_lt _ _ _
          have hVlt' : V' < 18446744073709551616 := by omega
          have hDB : DB wr := hX.out.2.2.1.belowN hI.out.2.2 hX.out.2.2.2.2.1
          obtain ⟨fn, tmps, assign, body, hy, hR⟩ := hX.out.2.2.2.2.2 _ (64 * (k : Int) + (c : Int)) wr hI.out.2.1 hlen
          have hb1 : ((V : Int) != 0) = true := by rw [bne_iff_ne]; omega
          have hb2 : ((V : Int) == 0) = false := by rw [beq_eq_false_iff_ne]; omega
          have hV1 : (1 : Int) ≤ (V : Int) := by omega
          have hV2 : (V : Int) < 18446744073709551616 := by omega
          have hcI : (c : Int) < 64 := by omega
          have hG := Aside0.mk (And.intro e1 (And.intro e2 (And.intro e3 (And.intro hlt2 (And.intro hDB (And.intro hVlt hz))))))
          clear e1 e2 e3 hlt2 hDB hVlt hVlt' hz hlen hcl
          gi_wp2_with (refine ⟨trivial, (fun _ => by omega), ?_⟩; gi_at_call 37; refine (callsIn_wide.2 (tz_any V c _ hG.out.2.2.2.2.2.1 hG.out.2.2.2.2.2.2 hG.out.2.2.2.2.1 hG.out.1)).mono ?_; rintro e w' ⟨rfl, rfl⟩)
          refine ⟨(fun _ => by omega), hR.mono ?_⟩
          rintro e W3 (⟨rfl, hJ3, hk3⟩ | ⟨rfl, hJx3⟩)
          · have hI3 : Aside0 (V' = wfr bs k (c + 1) ∧ J (elemsTo bs (64 * k + (c + 1))) W3 ∧ Below n₀ W W3) := ⟨hG.out.2.1, by rw [hG.out.2.2.1]; exact hJ3, hI.out.2.2.trans hk3⟩
            clear hJ3 hk3
            gi_wp2
            go_roundw
            case rel => exact ⟨V', c + 1, by omega, rfl, hI3⟩
            case measure => have := hG.out.2.2.2.1; simp [intOf]; omega
          · have hJ4 : Aside0 (∃ pre, (∃ rest, elems bs = pre ++ rest) ∧ Jx pre W3) := by
              refine ⟨_, ?_, hJx3⟩
              rw [← hG.out.2.2.1]
              obtain ⟨rest, hr⟩ := elemsTo_prefix bs (64 * k + (c + 1)) (bs.length)
              exact ⟨rest, by rw [← hr, elemsTo_past bs _ (by omega)]⟩
            clear hJx3
            gi_wp2
            refine bodyPost_ret (results_none rfl _ _ _) rfl ?_
            exact ⟨⟨_, rfl⟩, .inr hJ4.out⟩
    · obtain rfl : k = m := by omega
      have hJ5 := Aside0.mk (And.intro hJ.out.1 hX.out.2.1)
      gi_wp2
      go_end0
      exact ⟨⟨_, rfl⟩, .inl ⟨_, rfl, by rw [← hJ5.out.2]; exact hJ5.out.1⟩⟩
end Go.Proofs.YtibjpamnkhnagaaDoor
