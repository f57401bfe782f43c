/- Package bitset: Equal, Clone, Cap of sets in any state. -/
import Derived.Test.YtibjpamnkhnagaaDoorSetE
set_option linter.unusedVariables false
set_option linter.unusedSimpArgs false
namespace Go.Proofs.YtibjpamnkhnagaaDoor
open Go.RowKit Go.Proofs.YtibjpamnkhnagaaDoorW.PrintWords Mem Bit

theorem equal_no (v u : Option Addr) (a b : Bool) (w : World) (h : VS w v a) (h2 : VS w u b) (hab : (a && b) = false) :
    Calls Tryd.prog 10 #[.pointer v, .pointer u] w fun e w' => e = .returned (.bool (a == b)) ∧ ∃ q, w' = w.drewN q := by
  have h' := Aside0.mk h
  have h2' := Aside0.mk h2
  clear h h2
  cases a with
  | false =>
    cases b with
    | false =>
      clear hab
      go_enter Tryd.func10, Tryd.ntmps10
      go_wp2_with (go_at_call 34; (first | with_reducible refine (valid_st v false _ h'.out).mono ?_ | with_reducible refine (valid_st u false _ h2'.out).mono ?_); rintro e w' ⟨rfl, rfl⟩)
      go_ret
      exact ⟨rfl, 0, rfl⟩
    | true =>
      clear hab
      go_enter Tryd.func10, Tryd.ntmps10
      go_wp2_with (go_at_call 34; (first | with_reducible refine (valid_st v false _ h'.out).mono ?_ | with_reducible refine (valid_st u true _ h2'.out).mono ?_); rintro e w' ⟨rfl, rfl⟩)
      go_ret
      exact ⟨rfl, 0, rfl⟩
  | true =>
    cases b with
    | true => cases hab
    | false =>
      clear hab
      go_enter Tryd.func10, Tryd.ntmps10
      go_wp2_with (go_at_call 34; (first | with_reducible refine (valid_st v true _ h'.out).mono ?_ | with_reducible refine (valid_st u false _ h2'.out).mono ?_); rintro e w' ⟨rfl, rfl⟩)
      go_ret
      exact ⟨rfl, 0, rfl⟩
theorem equal_any (v u : Option Addr) (ok ok2 : Nat → Prop) (o1 o2 : Option (List Bool)) (w : World) (h1 : PS w ok v o1) (h2 : PS w ok2 u o2) :
    Calls Tryd.prog 10 #[.pointer v, .pointer u] w fun e w' => e = .returned (.bool (decide (o1 = o2))) ∧ ∃ q, w' = w.drewN q := by
  cases o1 with
  | none =>
    cases o2 with
    | none => exact equal_no v u false false w h1.vs h2.vs rfl
    | some cs =>
      refine (equal_no v u false true w h1.vs h2.vs rfl).mono ?_
      rintro e w' ⟨rfl, h⟩
      exact ⟨by rw [decide_eq_false (by simp)]; rfl, h⟩
  | some bs =>
    cases o2 with
    | none =>
      refine (equal_no v u true false w h1.vs h2.vs rfl).mono ?_
      rintro e w' ⟨rfl, h⟩
      exact ⟨by rw [decide_eq_false (by simp)]; rfl, h⟩
    | some cs =>
      rcases h1.ex with ⟨_, h⟩ | ⟨p, _, h, _⟩ | ⟨p, bs', rfl, h, hB⟩
      · cases h
      · cases h
      · obtain rfl : bs = bs' := Option.some.inj h
        rcases h2.ex with ⟨_, h⟩ | ⟨p, _, h, _⟩ | ⟨po, cs', rfl, h, hC⟩
        · cases h
        · cases h
        · obtain rfl : cs = cs' := Option.some.inj h
          exact equal_two p po ok ok2 bs cs _ w hB hC (by rw [Bool.eq_iff_iff]; simp)

theorem cap_any (v : Option Addr) (ok : Nat → Prop) (o : Option (List Bool)) (w : World) (h : PS w ok v o) :
    Calls Tryd.prog 32 #[.pointer v] w fun e w' => e = .returned (.int .i64 ((o.getD []).length : Nat)) ∧ w = w' := by
  have hv := Aside0.mk h.vs
  cases o with
  | none =>
    clear h
    go_enter Tryd.func32, Tryd.ntmps32
    go_wp2_with (go_at_call 34; refine (valid_st v false _ hv.out).mono ?_; rintro e w' ⟨rfl, rfl⟩)
    go_ret
    exact ⟨rfl, rfl⟩
  | some bs =>
    rcases h.ex with ⟨_, h⟩ | ⟨p, _, h, _⟩ | ⟨p, bs', rfl, h, hB⟩
    · cases h
    · cases h
    · obtain rfl : bs = bs' := Option.some.inj h
      obtain ⟨g, cc, hp, _⟩ := hB.ex
      have c0 : w.cell? ⟨p, 0, none⟩ = some (.bool true) := cell_at hp rfl
      have c1 : w.cell? ⟨p, 1, none⟩ = some (.int .i64 bs.length) := cell_at hp rfl
      clear hp hB h hv
      go_enter Tryd.func32, Tryd.ntmps32
      go_wp2_with (go_at_call 34; refine (valid_ok p _ c0).mono ?_; rintro e w' ⟨rfl, rfl⟩)
      go_ret
      exact ⟨rfl, rfl⟩

set_option maxHeartbeats 400000 in
theorem clone_ok (p : Nat) (ok : Nat → Prop) (bs : List Bool) (w : World) (hB : BS w ok p bs) :
    Calls Tryd.prog 9 #[.pointer (some ⟨p, 0, none⟩)] w fun e w' => ∃ p2, e = .returned (.pointer (some ⟨p2, 0, none⟩)) ∧ BS w' (fun k => w.heap.size ≤ k) p2 bs ∧ Kp (fun _ => False) w w' := by
  obtain ⟨g, cc, hp, okp, hR, hl⟩ := hB.ex
  have c0 : w.cell? ⟨p, 0, none⟩ = some (.bool true) := cell_at hp rfl
  have c1 : w.cell? ⟨p, 1, none⟩ = some (.int .i64 bs.length) := cell_at hp rfl
  have hX := Aside0.mk (And.intro hp hR)
  clear hp hR hB
  go_enter Tryd.func9, Tryd.ntmps9
  go_wp2_with (first
    | (go_at_call 34; refine (valid_ok p _ c0).mono ?_; rintro e w' ⟨rfl, rfl⟩)
    | (go_at_call 15; refine (new_ok bs.length _ hl).mono ?_; rintro e w1 ⟨p2, rfl, hN, hK⟩; obtain ⟨g2, cc2, hp2, okp2, hR2, hl2⟩ := hN.ex; have q2 : w1.cell? ⟨p2, 2, none⟩ = some (.slice (some ⟨g2, 0, none⟩) (wds (List.replicate bs.length false)).length cc2) := cell_at hp2 rfl; have q3 : w1.cell? ⟨p, 2, none⟩ = some (.slice (some ⟨g, 0, none⟩) (wds bs).length cc) := cell_at (hK.blk hX.out.1 (fun h => h)) rfl; have hY := Aside0.mk (And.intro hK (And.intro hp2 (And.intro okp2 hR2))); clear hK hN hp2 okp2 hR2 hl2 c0 c1))
  refine still_tail 8 (by kernel_rfl) (by kernel_rfl) ?_
  simp only [List.take_succ_cons, List.take_zero, List.drop_succ_cons, List.drop_zero]
  repeat still_step
  refine wpStill_nil ?_
  have hlen : (wds (List.replicate bs.length false)).length = (wds bs).length := by rw [wds_length, wds_length, List.length_replicate]
  refine Kd.R_copy (w0 := w1) (0 : Int) 0 (by rfl) (.tmp 15) (.tmp 19) 46 46 55 (by rfl) Tryd.underlying46 (by kernel_rfl) (.slice (some ⟨g2, 0, none⟩) (wds (List.replicate bs.length false)).length cc2) (wds (List.replicate bs.length false)) (wds bs) (some ⟨g, 0, none⟩) (wds bs).length cc (fun k => w.heap.size ≤ k ∧ k ≠ p2) (by rfl) (by rfl) (Kd.R_drew hY.out.2.2.2) ?_ ((Below.refl _ _).drew) (Nat.zero_le _) ?_
  · exact Kd.C_drew (Kd.C_below (R_readC hX.out.2).2.2 hY.out.1.none_below)
  · intro w2 hR3 hB3 hg3
    rw [hlen, Nat.min_self, List.take_length, List.drop_of_length_le (by omega), List.append_nil] at hR3
    have hZ := Aside0.mk (And.intro hR3 hg3)
    clear hR3 hB3 hg3
    go_wp2
    go_ret
    obtain ⟨hK, hp2, okp2, hR2⟩ := hY.out
    have hg2 : w.heap.size ≤ g2 ∧ g2 ≠ p2 := hR2.1 g2 (by simp [Value.ownBlock])
    refine ⟨p2, rfl, ⟨⟨g2, cc2, ?_, okp2, hZ.out.1, hl⟩⟩, ?_⟩
    · have h5 := (hZ.out.2.block p2 (blk_lt' hp2) (by simpa [Value.ownBlock] using fun e : p2 = g2 => hg2.2 e.symm)).trans hp2
      rw [hlen, List.length_replicate] at h5
      exact h5
    · refine Kp.of_below ((((hK.mono (S' := fun k => w.heap.size ≤ k) (fun _ h => h.elim)).drew).grown hZ.out.2 (fun k hk => .inl ?_)).below (fun _ h => h)) _
      have : g2 = k := by simpa [Value.ownBlock] using hk
      exact this ▸ hg2.1
theorem clone_no (v : Option Addr) (w : World) (h : VS w v false) : Calls Tryd.prog 9 #[.pointer v] w fun e w' => e = .returned (.pointer none) ∧ w = w' := by
  have hv := Aside0.mk h
  clear h
  go_enter Tryd.func9, Tryd.ntmps9
  go_wp2_with (go_at_call 34; refine (valid_st v false _ hv.out).mono ?_; rintro e w' ⟨rfl, rfl⟩)
  go_ret
  exact ⟨rfl, rfl⟩
theorem clone_any (v : Option Addr) (ok : Nat → Prop) (o : Option (List Bool)) (w : World) (h : PS w ok v o) :
    Calls Tryd.prog 9 #[.pointer v] w fun e w' => ∃ v2, e = .returned (.pointer v2) ∧ PS w' (fun k => w.heap.size ≤ k) v2 o ∧ Kp (fun _ => False) w w' := by
  cases o with
  | none =>
    refine (clone_no v w h.vs).mono ?_
    rintro e w' ⟨rfl, rfl⟩
    exact ⟨none, rfl, PS.none_ _ _, Kp.refl _ _⟩
  | some bs =>
    rcases h.ex with ⟨_, h⟩ | ⟨p, _, h, _⟩ | ⟨p, bs', rfl, h, hB⟩
    · cases h
    · cases h
    · obtain rfl : bs = bs' := Option.some.inj h
      refine (clone_ok p ok bs w hB).mono ?_
      rintro e w' ⟨p2, rfl, hB2, hK⟩
      exact ⟨_, rfl, PS.set_ hB2, hK⟩
end Go.Proofs.YtibjpamnkhnagaaDoor
