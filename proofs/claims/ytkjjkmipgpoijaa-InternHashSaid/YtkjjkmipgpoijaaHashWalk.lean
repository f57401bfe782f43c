/- InternHash: the walk. -/
import Derived.Test.YtkjjkmipgpoijaaTabG
import Derived.Test.YtkjjkmipgpoijaaHashPure
import Derived.Test.YtkjjkmipgpoijaaOpens
set_option linter.unusedVariables false
set_option linter.unusedSimpArgs false
namespace Go.Proofs.Ytkjjkmipgpoijaa
open Go.RowKit Go.Maps Go.Proofs.YtkjjkmipgpoijaaW.PrintWords Mem

theorem wf_u8 {l : List Int} (h : ∀ x ∈ l, (Lit.int .u8 x).wf = true) : ∀ x ∈ l, 0 ≤ x ∧ x < 256 := fun x hx => by
  have := h x hx
  simp [Lit.wf, IntKind.min, IntKind.max, IntKind.signed, IntKind.bits] at this
  omega
theorem hash_calls (A : Option Addr) (c : Nat) (l : List Int) (w : World) (hC : Kd.C (Kd.int .u8) w A l.length l) (hc : l.length ≤ c) (hl : ∀ x ∈ l, 0 ≤ x ∧ x < 256) (hn : l.length ≤ 3000) :
    Calls Try.prog 8 #[.slice A l.length c] w fun e w' => e = .returned (.int .u64 (HashPure.fnv l : Nat)) ∧ Drawn0 w w' := PInternHash.intern_Hash.calls (l.length + 1) A c l _ w hC hc (HashPure.hash_f l hl hn)
theorem rhash_calls (A : Option Addr) (c : Nat) (l : List Int) (w : World) (hC : Kd.C (Kd.int .u8) w A l.length l) (hc : l.length ≤ c) (hl : ∀ x ∈ l, 0 ≤ x ∧ x < 256) (hn : l.length ≤ 3000) :
    Calls Try.prog 9 #[.slice A l.length c] w fun e w' => e = .returned (.int .u64 (HashPure.fnv l : Nat)) ∧ Drawn0 w w' := PInternHash.burnishref04_Hash.calls (l.length + 1) A c l _ w hC hc (HashPure.rhash_f l hl hn)

theorem hash2 {g n cap : Nat} {ok : Nat → Prop} (l : List Int) {w : World} (hz : l.length = n) (hR : Kd.R (Kd.int .u8) 5 w 0 ok (.slice (some ⟨g, 0, none⟩) n cap) l) (hl : ∀ x ∈ l, 0 ≤ x ∧ x < 256) (hn : n ≤ 3000) :
    Calls Try.prog 8 #[.slice (some ⟨g, 0, none⟩) n cap] w fun e w' => e = .returned (.int .u64 (HashPure.fnv l : Nat)) ∧ Drawn0 w w' := by
  subst hz
  obtain ⟨A, c, e, hle, hC⟩ := Kd.R_reads hR
  injection e with e1 e2 e3
  subst e1
  subst e3
  exact hash_calls _ _ l w hC hle hl hn

set_option maxRecDepth 100000 in
set_option maxHeartbeats 1000000 in
theorem hash_walk (A : Option Addr) (c : Nat) (l : List Int) (at_ : Int) (by_ : Int) (w : World) (hc : l.length ≤ c) (hC : Kd.C (Kd.int .u8) w A l.length l) (hg : l.length * 1 ≤ 140737488351232 ∧ ∀ x ∈ l, (Lit.int .u8 x).wf = true)
    (wa : (Lit.int .i64 at_).wf = true) (wb : (Lit.int .u8 by_).wf = true) :
    Calls Try.prog 3 #[.slice A l.length c, .int .i64 at_, .int .u8 by_] w fun e w' => e = .returned (.bool true) ∧ Below w.heap.size w w' := by
  have hl := wf_u8 hg.2
  have hb : 0 ≤ by_ ∧ by_ < 256 := by
    simp [Lit.wf, IntKind.min, IntKind.max, IntKind.signed, IntKind.bits] at wb
    omega
  have hm := hg.1
  clear hg wa wb
  by_cases h3 : 3000 < l.length
  · have h3' : (3000 : Int) < l.length := by omega
    clear hl hC
    go_enter Try.func3, Try.ntmps3
    go_wp2_with (go_at_call 7; refine (awake_any _).mono ?_; rintro e w1 ⟨rfl, hb1⟩)
    go_ret
    exact ⟨rfl, hb1⟩
  · have h3' : (l.length : Int) ≤ 3000 := by omega
    have hX := Aside0.mk (And.intro hl (And.intro hC h3))
    clear hl hC h3
    have hN : l.length ≤ 3000 := by omega
    by_cases h4 : at_ < 0
    · go_enter Try.func3, Try.ntmps3
      go_wp2_with (first
        | (go_at_call 7; refine (awake_any _).mono ?_; rintro e w1 ⟨rfl, hb1⟩)
        | (go_at_call 8; refine (hash_calls A c l _ hX.out.2.1 hc hX.out.1 hN).mono ?_; rintro e w1 ⟨rfl, ⟨q1, rfl⟩⟩)
        | (go_at_call 9; refine (rhash_calls A c l _ (Kd.C_drewN hX.out.2.1 _) hc hX.out.1 hN).mono ?_; rintro e w1 ⟨rfl, ⟨q2, rfl⟩⟩))
      go_ret
      exact ⟨rfl, ((Kp.refl (fun _ => False) w).drewN _).none_below.trans (hb1.mono (Nat.le_refl _))⟩
    · have h4' : 0 ≤ at_ := by omega
      by_cases h5 : (l.length : Int) ≤ at_
      · go_enter Try.func3, Try.ntmps3
        go_wp2_with (first
          | (go_at_call 7; refine (awake_any _).mono ?_; rintro e w1 ⟨rfl, hb1⟩)
          | (go_at_call 8; refine (hash_calls A c l _ hX.out.2.1 hc hX.out.1 hN).mono ?_; rintro e w1 ⟨rfl, ⟨q1, rfl⟩⟩)
          | (go_at_call 9; refine (rhash_calls A c l _ (Kd.C_drewN hX.out.2.1 _) hc hX.out.1 hN).mono ?_; rintro e w1 ⟨rfl, ⟨q2, rfl⟩⟩))
        go_ret
        exact ⟨rfl, ((Kp.refl (fun _ => False) w).drewN _).none_below.trans (hb1.mono (Nat.le_refl _))⟩
      · have h5' : at_ < l.length := by omega
        by_cases h6 : by_ = 0
        · subst h6
          go_enter Try.func3, Try.ntmps3
          go_wp2_with (first
            | (go_at_call 7; refine (awake_any _).mono ?_; rintro e w1 ⟨rfl, hb1⟩)
            | (go_at_call 8; refine (hash_calls A c l _ hX.out.2.1 hc hX.out.1 hN).mono ?_; rintro e w1 ⟨rfl, ⟨q1, rfl⟩⟩)
            | (go_at_call 9; refine (rhash_calls A c l _ (Kd.C_drewN hX.out.2.1 _) hc hX.out.1 hN).mono ?_; rintro e w1 ⟨rfl, ⟨q2, rfl⟩⟩))
          go_ret
          exact ⟨rfl, ((Kp.refl (fun _ => False) w).drewN _).none_below.trans (hb1.mono (Nat.le_refl _))⟩
        · have h6' : (by_ == 0) = false := by simpa using h6
          obtain ⟨i, rfl⟩ := Int.eq_ofNat_of_zero_le h4'
          clear h6 h5 h4
          have hi : i < l.length := by omega
          obtain ⟨x, hxi⟩ : ∃ x, x = l[i] := ⟨_, rfl⟩
          have hx := hX.out.1 l[i] (List.getElem_mem hi)
          rw [← hxi] at hx
          obtain ⟨y, hy⟩ : ∃ y, Go.bits .xor .u8 x by_ = y := ⟨_, rfl⟩
          have hy3 := HashPure.xor_ne x by_ hx.1 hx.2 hb.1 hb.2 (by simpa using h6')
          rw [hy] at hy3
          have hne := HashPure.fnv_set l hX.out.1 i hi y hy3.1 hy3.2.1 (by rw [← hxi]; exact hy3.2.2)
          have hne' : ((HashPure.fnv (l.set i y) : Int) != (HashPure.fnv l : Int)) = true := by
            rw [bne_iff_ne]; omega
          have hls : ∀ x ∈ l.set i y, 0 ≤ x ∧ x < 256 := fun x hx' => by
            rcases List.mem_or_eq_of_mem_set hx' with h | h
            · exact hX.out.1 x h
            · rw [h]; exact ⟨hy3.1, hy3.2.1⟩
          have hrd : rdOf (0 : Int) l i = x := by rw [hxi]; simp [rdOf, hi]
          have hY := Aside0.mk (And.intro hxi (And.intro hy3 (And.intro hne (And.intro hls hrd))))
          have hz : (l.set i y).length = l.length := List.length_set
          have hZ := Aside0.mk hz
          clear hxi hy3 hne hls hx hrd hz
          have hi0 : (0 : Int) ≤ (i : Int) := by omega
          go_enter Try.func3, Try.ntmps3
          go_wp2_with (first
            | (go_at_call 8; (with_reducible refine (hash_calls A c l _ hX.out.2.1 hc hX.out.1 hN).mono ?_); rintro e w1 ⟨rfl, ⟨q1, rfl⟩⟩)
            | (go_at_call 8; (with_reducible refine (hash2 (l.set i y) hZ.out (Kd.R_below hRP.out hb3) hY.out.2.2.2.1 hN).mono ?_); rintro e w4 ⟨rfl, ⟨q4, rfl⟩⟩)
            | (go_at_call 9; refine (rhash_calls A c l _ (Kd.C_drewN hX.out.2.1 _) hc hX.out.1 hN).mono ?_; rintro e w1 ⟨rfl, ⟨q2, rfl⟩⟩)
            | (at_builtin; refine Kd.R_append_rows (Kd.int .u8) (Rr := fun x cs => cs = [.int .u8 x]) 0 (by rfl) (.tmp 32) (.tmp 33) 22 5 (.int .u8 0) 1 (by rfl) Try.underlying22 info5 rfl (by decide) (by decide) (.slice (some ⟨w.heap.size, 0, none⟩) 0 0) [] l A l.length c (fun k => w.heap.size ≤ k) (fun _ => False) (by rfl) (by rfl) (Kd.R_drewN (own_empty w 0 5 _ (Nat.le_refl _)) _) (Kd.C_drewN (Kd.C_alloc hX.out.2.1 _) _) (fun _ _ h => h) (fun _ h => h.elim) (fun k hk => by simp at hk; omega) (Below.refl _ _) (Nat.zero_le _) (by simp; omega) ?_; intro v1 w2 hRA hBA hgA hatA; simp only [List.nil_append] at hRA; obtain ⟨g, cap, rfl, _, hgl, _⟩ := Kd.R_form hRA (by omega); have hc0 := Kd.R_cell 0 hRA i (by omega) (by omega); rw [hY.out.2.2.2.2] at hc0; have hc1 : w2.cell? ⟨g, i, none⟩ = some (.int .u8 x) := hc0.1; have hf1 : w2.frozen? ⟨g, i, none⟩ = false := hc0.2; clear hc0; have hRA' := Aside0.mk hRA; clear hRA)
            | (go_at_call 7; have hRP : Aside0 (Kd.R (Kd.int .u8) 5 (w2.setCell ⟨g, i, none⟩ (.int .u8 y)) 0 (fun k => w.heap.size ≤ k) (.slice (some ⟨g, 0, none⟩) l.length cap) (l.set i y)) := ⟨Kd.R_putn hRA'.out i y⟩; refine (awake_any _).mono ?_; rintro e w3 ⟨rfl, hb3⟩))
          go_ret
          refine ⟨rfl, ?_⟩
          have k2 : Kp (fun k => w.heap.size ≤ k) w w2 := ((((Kp.refl _ w).alloc _).drewN _).grown hgA (fun k hk => .inr (by simp [Value.ownBlock] at hk; omega)))
          have k3 : Kp (fun k => w.heap.size ≤ k) w (w2.setCell ⟨g, i, none⟩ (.int .u8 y)) := k2.setCell (.inl (hRA'.out.1 g rfl)) _
          exact ((k3.then_ (Kp.of_below hb3 (fun _ => False)) (fun _ h => h.elim)).drewN _).below (fun k hk => hk)

end Go.Proofs.Ytkjjkmipgpoijaa
