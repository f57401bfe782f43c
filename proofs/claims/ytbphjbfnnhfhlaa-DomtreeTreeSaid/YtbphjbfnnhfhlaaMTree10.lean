import Derived.Test.YtbphjbfnnhfhlaaMTree9
section
/- What works answers. -/
set_option linter.unusedVariables false
set_option linter.unusedSimpArgs false
set_option linter.unusedSectionVars false
namespace Go.Proofs.Ytbphjbfnnhfhlaa
open Go.RowKit Go.Proofs.YtbphjbfnnhfhlaaW.PrintWords Go.Proofs.Ytbphjbfnnhfhlaa.PDigraphTells Mem

/-- The first example's rows lie ready. -/
theorem lit_g1 (w : World) : Kd.C kG (((((w.alloc (.cells #[.int .i64 1, .int .i64 2] 3)).alloc (.cells #[.int .i64 3] 3)).alloc (.cells #[.int .i64 3] 3)).alloc (.cells #[.int .i64 1] 3)).alloc (.cells #[.slice (some ⟨w.heap.size, 0, none⟩) 2 2, .slice (some ⟨w.heap.size + 1, 0, none⟩) 1 1, .slice (some ⟨w.heap.size + 1 + 1, 0, none⟩) 1 1, .slice (some ⟨w.heap.size + 1 + 1 + 1, 0, none⟩) 1 1] 28)) (some ⟨w.heap.size + 1 + 1 + 1 + 1, 0, none⟩) 4 G1 := by
  refine lit_rows _ _ _ G1 _ (by simp) (by decide) fun j x hj => ?_
  rcases j with _ | _ | _ | _ | j
  · obtain rfl : [1, 2] = x := by simpa [G1] using hj
    exact ⟨_, _, rfl, Nat.le_refl _, Kd.C_alloc (Kd.C_alloc (Kd.C_alloc (lit_ints w _ 3 [1, 2] _ rfl rfl (by decide)) _) _) _⟩
  · obtain rfl : [3] = x := by simpa [G1] using hj
    exact ⟨_, _, rfl, Nat.le_refl _, Kd.C_alloc (Kd.C_alloc (lit_ints _ _ 3 [3] _ (by simp) rfl (by decide)) _) _⟩
  · obtain rfl : [3] = x := by simpa [G1] using hj
    exact ⟨_, _, rfl, Nat.le_refl _, Kd.C_alloc (lit_ints _ _ 3 [3] _ (by simp) rfl (by decide)) _⟩
  · obtain rfl : [1] = x := by simpa [G1] using hj
    exact ⟨_, _, rfl, Nat.le_refl _, lit_ints _ _ 3 [1] _ (by simp) rfl (by decide)⟩
  · simp [G1] at hj
theorem lit_g2 (w : World) : Kd.C kG (((w.alloc (.cells #[.int .i64 1] 3)).alloc (.cells #[.int .i64 2] 3)).alloc (.cells #[.slice (some ⟨w.heap.size, 0, none⟩) 1 1, .slice (some ⟨w.heap.size + 1, 0, none⟩) 1 1, .slice none 0 0] 28)) (some ⟨w.heap.size + 1 + 1, 0, none⟩) 3 G2 := by
  refine lit_rows _ _ _ G2 _ (by simp) (by decide) fun j x hj => ?_
  rcases j with _ | _ | _ | j
  · obtain rfl : [1] = x := by simpa [G2] using hj
    exact ⟨_, _, rfl, Nat.le_refl _, Kd.C_alloc (lit_ints w _ 3 [1] _ rfl rfl (by decide)) _⟩
  · obtain rfl : [2] = x := by simpa [G2] using hj
    exact ⟨_, _, rfl, Nat.le_refl _, lit_ints _ _ 3 [2] _ (by simp) rfl (by decide)⟩
  · obtain rfl : [] = x := by simpa [G2] using hj
    exact ⟨none, 0, rfl, Nat.le_refl _, Kd.C_nil _ _⟩
  · simp [G2] at hj

/-- slices.Equal against a row of four numbers written just now. -/
theorem eq_lit (A : Option Addr) (c : Nat) (x : List Int) (cs : Array Value) (w : World) (g : Nat) (hg : w.heap.size = g) (hA : Kd.C (Kd.int .i64) w A 4 x) (hc : 4 ≤ c) (hcs : cs.toList = x.map (Value.int .i64)) (hn : x.length = 4) :
    Calls Try.prog 11 #[.slice A 4 c, .slice (some ⟨g, 0, none⟩) 4 4] (w.alloc (.cells cs 3 (0, 0))) fun e w' => e = .returned (.bool true) ∧ Below w.heap.size w w' := by
  have h := eqi_any c 4 A (some ⟨g, 0, none⟩) x x (w.alloc (.cells cs 3 (0, 0))) (by rw [hn]; exact Kd.C_alloc hA _) (lit_ints w cs 3 x g hg hcs (by omega)) (by omega) (by omega) (by omega) true (by simp)
  rw [hn] at h
  refine h.mono ?_
  rintro e w' ⟨rfl, B⟩
  exact ⟨rfl, (below_alloc (Below.refl _ w) _).trans (B.mono (by simp))⟩

set_option maxRecDepth 100000 in
set_option maxHeartbeats 4000000 in
theorem works_any (w : World) : Calls Try.prog 10 #[] w fun e w' => e = .returned (.bool true) ∧ Below w.heap.size w w' := by
  go_enter Try.func10, Try.ntmps10
  go_wp2_with fail
  refine (build_any _ 4 G1 0 _ (lit_g1 w) (by decide) ⟨by decide, by decide⟩ (by decide)).mono ?_
  rintro e' w1 ⟨v, l, rfl, hR, hB, B1⟩
  obtain rfl := bld1 hB
  obtain ⟨A1, c1, ev, hc1, C1⟩ := Kd.R_reads hR
  subst ev
  have H1 := Aside0.mk (show Below w.heap.size w w1 ∧ 4 ≤ c1 ∧ Kd.C (Kd.int .i64) w1 A1 4 [0, 0, 0, 0] from ⟨(below_alloc (below_alloc (below_alloc (below_alloc (below_alloc (Below.refl _ w) _) _) _) _) _).trans (B1.mono (by simp; omega)), hc1, C1⟩)
  clear hR hB B1 hc1 C1
  go_wp2_with fail
  refine (postdom_any _ 3 G2 _ (lit_g2 w1) (by decide) ⟨by decide, by decide⟩ (by decide)).mono ?_
  rintro e' w2 ⟨v, l, rfl, hR, hB, B2⟩
  obtain rfl : l = [1, 2, 3, 3] := by
    rcases hB with ⟨_, hB⟩ | ⟨hn, _⟩
    · exact bld2 hB
    · exact absurd g2_ok hn
  obtain ⟨A2, c2, ev, hc2, C2⟩ := Kd.R_reads hR
  subst ev
  have b2 : Below w1.heap.size w1 w2 := (below_alloc (below_alloc (below_alloc (Below.refl _ w1) _) _) _).trans (B2.mono (by simp; omega))
  have H2 := Aside0.mk (show (Below w.heap.size w w2 ∧ 4 ≤ c1 ∧ Kd.C (Kd.int .i64) w2 A1 4 [0, 0, 0, 0]) ∧ 4 ≤ c2 ∧ Kd.C (Kd.int .i64) w2 A2 4 [1, 2, 3, 3] from ⟨⟨H1.out.1.trans (b2.mono H1.out.1.size), H1.out.2.1, Kd.C_below H1.out.2.2 b2⟩, hc2, C2⟩)
  clear hR hB B2 hc2 C2 b2 H1
  go_wp2_with fail
  refine (eq_lit A1 c1 [0, 0, 0, 0] _ w2 _ rfl H2.out.1.2.2 H2.out.1.2.1 rfl rfl).mono ?_
  rintro e' w3 ⟨rfl, B3⟩
  have H3 := Aside0.mk (show (Below w.heap.size w w3 ∧ 4 ≤ c1 ∧ Kd.C (Kd.int .i64) w3 A1 4 [0, 0, 0, 0]) ∧ 4 ≤ c2 ∧ Kd.C (Kd.int .i64) w3 A2 4 [1, 2, 3, 3] from ⟨⟨H2.out.1.1.trans (B3.mono H2.out.1.1.size), H2.out.1.2.1, Kd.C_below H2.out.1.2.2 B3⟩, H2.out.2.1, Kd.C_below H2.out.2.2 B3⟩)
  clear B3 H2
  go_wp2_with fail
  refine (common_dom_any A1 c1 [0, 0, 0, 0] 1 2 _ H3.out.1.2.2 H3.out.1.2.1 (by decide)).mono ?_
  rintro e' w4 ⟨r, rfl, hr, B4⟩
  obtain rfl : r = 0 := by
    rcases hr with ⟨_, h⟩ | ⟨h, _⟩
    · exact low1 h
    · exact absurd int1 h
  have H4 := Aside0.mk (show (Below w.heap.size w w4 ∧ 4 ≤ c1 ∧ Kd.C (Kd.int .i64) w4 A1 4 [0, 0, 0, 0]) ∧ 4 ≤ c2 ∧ Kd.C (Kd.int .i64) w4 A2 4 [1, 2, 3, 3] from ⟨⟨H3.out.1.1.trans (B4.mono H3.out.1.1.size), H3.out.1.2.1, Kd.C_below H3.out.1.2.2 B4⟩, H3.out.2.1, Kd.C_below H3.out.2.2 B4⟩)
  clear hr B4 H3
  go_wp2_with fail
  refine (preorder_any A1 c1 [0, 0, 0, 0] _ H4.out.1.2.2 H4.out.1.2.1 (by decide)).mono ?_
  rintro e' w5 ⟨v, o, rfl, hR, ho, B5⟩
  obtain rfl : o = [0, 1, 2, 3] := by
    rcases ho with ⟨_, h⟩ | ⟨h, _⟩
    · rw [h]; exact pre1
    · exact absurd tree1 h
  obtain ⟨A3, c3, ev, hc3, C3⟩ := Kd.R_reads hR
  subst ev
  have H5 := Aside0.mk (show (Below w.heap.size w w5 ∧ 4 ≤ c2 ∧ Kd.C (Kd.int .i64) w5 A2 4 [1, 2, 3, 3]) ∧ 4 ≤ c3 ∧ Kd.C (Kd.int .i64) w5 A3 4 [0, 1, 2, 3] from ⟨⟨H4.out.1.1.trans (B5.mono H4.out.1.1.size), H4.out.2.1, Kd.C_below H4.out.2.2 B5⟩, hc3, C3⟩)
  clear hR ho B5 H4 hc3 C3
  go_wp2_with fail
  refine (eq_lit A3 c3 [0, 1, 2, 3] _ w5 _ rfl H5.out.2.2 H5.out.2.1 rfl rfl).mono ?_
  rintro e' w6 ⟨rfl, B6⟩
  have H6 := Aside0.mk (show Below w.heap.size w w6 ∧ 4 ≤ c2 ∧ Kd.C (Kd.int .i64) w6 A2 4 [1, 2, 3, 3] from ⟨H5.out.1.1.trans (B6.mono H5.out.1.1.size), H5.out.1.2.1, Kd.C_below H5.out.1.2.2 B6⟩)
  clear B6 H5
  go_wp2_with fail
  refine (eq_lit A2 c2 [1, 2, 3, 3] _ w6 _ rfl H6.out.2.2 H6.out.2.1 rfl rfl).mono ?_
  rintro e' w7 ⟨rfl, B7⟩
  have H7 := Aside0.mk (H6.out.1.trans (B7.mono H6.out.1.size))
  clear B7 H6
  go_wp2
  go_ret
  exact ⟨rfl, H7.out⟩
end Go.Proofs.Ytbphjbfnnhfhlaa
end

section
/- large; what the laws' walks share. -/
set_option linter.unusedVariables false
set_option linter.unusedSimpArgs false
set_option linter.unusedSectionVars false
namespace Go.Proofs.Ytbphjbfnnhfhlaa
open Go.RowKit Go.Proofs.YtbphjbfnnhfhlaaW.PrintWords Go.Proofs.Ytbphjbfnnhfhlaa.PDigraphTells Mem

theorem large_l0 (G : List (List Int)) (hl : G.length ≤ 60) : ∀ (d i k s : Nat), i + d = G.length → d < k → s ≤ 200 * i → ∃ b, burnishlaw08_large.l0 k (s : Int) G (G.length : Int) (i : Int) = some b := by
  intro d
  induction d with
  | zero =>
    intro i k s hi hk hs
    obtain ⟨k, rfl⟩ : ∃ m, k = m + 1 := ⟨k - 1, by omega⟩
    simp only [burnishlaw08_large.l0]
    rw [if_neg (by omega)]
    exact ⟨_, rfl⟩
  | succ d ih =>
    intro i k s hi hk hs
    obtain ⟨k, rfl⟩ : ∃ m, k = m + 1 := ⟨k - 1, by omega⟩
    simp only [burnishlaw08_large.l0]
    rw [if_pos (by omega), if_pos (by omega), if_pos (by omega)]
    by_cases h : ((rd_L1 G (i : Int)).length : Int) > 200
    · rw [if_pos h]; exact ⟨_, rfl⟩
    · rw [if_neg h]
      have e1 : wrap64 ((s : Int) + ((rd_L1 G (i : Int)).length : Int)) = ((s + (rd_L1 G (i : Int)).length : Nat) : Int) := by unfold wrap64; omega
      have e2 : wrap64 ((i : Int) + 1) = ((i + 1 : Nat) : Int) := by unfold wrap64; omega
      rw [e1, e2]
      exact ih (i + 1) k _ (by omega) (by omega) (by omega)
theorem large_any (A : Option Addr) (c : Nat) (G : List (List Int)) (w : World) (hC : Kd.C kG w A G.length G) (hc : G.length ≤ c) :
    Calls Try.prog 9 #[.agg #[.slice A G.length c]] w fun e w' => ∃ b, e = .returned (.bool b) ∧ (b = false → G.length ≤ 60) ∧ Below w.heap.size w w' := by
  by_cases h : (G.length : Int) > 60
  · refine (burnishlaw08_large.calls 0 A c G true w hC hc (by unfold burnishlaw08_large.f; rw [if_pos h])).mono ?_
    rintro e w' ⟨rfl, hb⟩
    exact ⟨true, rfl, fun h => (by cases h), by first | exact hb | (obtain ⟨n, rfl⟩ := hb.out; exact pw_below_drewN (Below.refl _ _) _)⟩
  · obtain ⟨b, hb⟩ := large_l0 G (by omega) G.length 0 (G.length + 1) 0 (by omega) (by omega) (by omega)
    refine (burnishlaw08_large.calls (G.length + 1) A c G b w hC hc (by unfold burnishlaw08_large.f; rw [if_neg h]; exact hb)).mono ?_
    rintro e w' ⟨rfl, hb⟩
    exact ⟨b, rfl, fun _ => by omega, by first | exact hb | (obtain ⟨n, rfl⟩ := hb.out; exact pw_below_drewN (Below.refl _ _) _)⟩
end Go.Proofs.Ytbphjbfnnhfhlaa
end

section
/- The list of immediate dominators is a dominator tree: On is dominance. -/
set_option linter.unusedVariables false
set_option linter.unusedSimpArgs false
set_option linter.unusedSectionVars false
namespace Go.Proofs.Ytbphjbfnnhfhlaa
open Go.RowKit Go.Proofs.YtbphjbfnnhfhlaaW.PrintWords Go.Proofs.Ytbphjbfnnhfhlaa.PDigraphTells Mem

theorem dom_anti {G : List (List Int)} {e u v : Int} (h1 : domG G e u v) (h2 : domG G e v u) : u = v := by
  by_cases h9 : u = v
  · exact h9
  · exfalso
    have key : ∀ y, Grf.Reach (adj G) e y → (RA (adj G) e v u ∨ RA (adj G) e u v) ∨ (RA (adj G) e u y ∧ RA (adj G) e v y) := by
      intro y hy
      induction hy with
      | refl =>
        by_cases e1 : e = u
        · subst e1; exact .inl (.inl (.base h9))
        · by_cases e2 : e = v
          · subst e2; exact .inl (.inr (.base e1))
          · exact .inr ⟨.base e1, .base e2⟩
      | @tail b y hb hy ih =>
        rcases ih with ih | ⟨ia, ib⟩
        · exact .inl ih
        · by_cases e1 : y = u
          · subst e1; exact .inl (.inl (.step ib hy h9))
          · by_cases e2 : y = v
            · subst e2; exact .inl (.inr (.step ia hy e1))
            · exact .inr ⟨.step ia hy e1, .step ib hy e2⟩
    rcases key v h1.1 with (h | h) | ⟨_, h⟩
    · exact h2.2 h
    · exact h1.2 h
    · exact h.ne rfl
theorem dom_trans {G : List (List Int)} {e d p x : Int} (h1 : domG G e d p) (h2 : domG G e p x) : domG G e d x := by
  refine ⟨h2.1, fun hr => ?_⟩
  have key : ∀ y, RA (adj G) e d y → RA (adj G) e p y ∨ RA (adj G) e d p := by
    intro y hy
    induction hy with
    | base h3 =>
      by_cases e1 : e = p
      · subst e1; exact .inr (.base h3)
      · exact .inl (.base e1)
    | @step b y hb hy hn ih =>
      rcases ih with ih | ih
      · by_cases e1 : y = p
        · subst e1; exact .inr (.step hb hy hn)
        · exact .inl (.step ih hy e1)
      · exact .inr ih
  rcases key x hr with h | h
  · exact h2.2 h
  · exact h1.2 h
theorem dom_reach {G : List (List Int)} {e p x : Int} (h : domG G e p x) : Grf.Reach (adj G) e p := by
  by_cases h9 : Grf.Reach (adj G) e p
  · exact h9
  · exfalso
    apply h.2
    have key : ∀ y, Grf.Reach (adj G) e y → RA (adj G) e p y := by
      intro y hy
      induction hy with
      | refl => exact .base (fun e1 => h9 (by rw [← e1]; exact .refl _))
      | @tail b y hb hy ih => exact .step ih hy (fun e1 => h9 (by rw [← e1]; exact hb.tail hy))
    exact key x h.1
theorem dom_self {G : List (List Int)} {e x : Int} (h : Grf.Reach (adj G) e x) : domG G e x x := ⟨h, fun h => h.ne rfl⟩
theorem dom_root {G : List (List Int)} {e d : Int} (h : domG G e d e) : d = e := by
  by_cases h1 : d = e
  · exact h1
  · exact absurd (.base (Ne.symm h1)) h.2
section
variable {G : List (List Int)} {e : Int} {l : List Int} (h : chk G = 0 ∧ isNode G e) (hI : Idm G e l)
include h hI
theorem idm_idx {x : Int} : idx l x ↔ isNode G x := by unfold idx isNode; rw [hI.len]
theorem idm_par {x : Int} (hx : Grf.Reach (adj G) e x) : Grf.Reach (adj G) e (rd l x) := by
  by_cases e1 : x = e
  · rw [e1, hI.root]; exact .refl _
  · exact dom_reach (hI.up x hx e1).1
theorem idm_in {x : Int} (hx : isNode G x) : rd l x ≠ -1 ↔ Grf.Reach (adj G) e x := by
  constructor
  · intro h1
    by_cases h2 : Grf.Reach (adj G) e x
    · exact h2
    · exact absurd (hI.out x hx h2) h1
  · intro h1 h2
    have h3 := (reach_node h (idm_par h hI h1)).1
    omega
theorem idm_self {x : Int} (hx : Grf.Reach (adj G) e x) (h1 : rd l x = x) : x = e := by
  by_cases e1 : x = e
  · exact e1
  · exact absurd h1 (hI.up x hx e1).2.1
theorem idm_up : ∀ (n : Nat) (x : Int), Grf.Reach (adj G) e x → (∀ (L : List Int), L.Nodup → (∀ v ∈ L, domG G e v x) → L.length ≤ n) → ∃ k, Up l x k := by
  intro n
  induction n with
  | zero =>
    intro x hx hL
    have := hL [x] (by simp) (fun v hv => by rw [List.mem_singleton.1 hv]; exact dom_self hx)
    simp at this
  | succ n ih =>
    intro x hx hL
    have hxi := (idm_idx h hI).2 (reach_node h hx)
    by_cases e1 : x = e
    · exact ⟨0, .root hxi (by rw [e1]; exact hI.root)⟩
    · obtain ⟨a1, a2, a3⟩ := hI.up x hx e1
      obtain ⟨k, hk⟩ := ih (rd l x) (dom_reach a1) (fun L hn hv => by
        have hx2 : x ∉ L := fun hm => a2 (dom_anti a1 (hv x hm))
        have := hL (x :: L) (List.nodup_cons.2 ⟨hx2, hn⟩) (fun v hv2 => by
          rcases List.mem_cons.1 hv2 with rfl | h3
          · exact dom_self hx
          · exact dom_trans (hv v h3) a1)
        rw [List.length_cons] at this
        omega)
      exact ⟨k + 1, .step hxi a2 hk⟩
theorem idm_up' {x : Int} (hx : Grf.Reach (adj G) e x) : ∃ k, Up l x k := by
  refine idm_up h hI (nodes G).length x hx (fun L hn hv => ?_)
  exact nodup_len L (nodes G) hn (fun v hm => (mem_nodes G v).2 (reach_node h (dom_reach (hv v hm))))
theorem idm_on {x : Int} (hx : Grf.Reach (adj G) e x) (d : Int) : On l d x ↔ domG G e d x := by
  constructor
  · intro ho
    induction ho with
    | refl => exact dom_self hx
    | @step y hi e1 u ih =>
      have hp := ih (idm_par h hI hx)
      by_cases e2 : y = e
      · exact absurd (by rw [e2]; exact hI.root) e1
      · exact dom_trans hp (hI.up y hx e2).1
  · intro hd
    obtain ⟨k, hk⟩ := idm_up' h hI hx
    induction hk with
    | @root y hi e1 =>
      have := idm_self h hI hx e1
      subst this
      rw [dom_root hd]
      exact .refl
    | @step y k hi e1 u ih =>
      by_cases e2 : d = y
      · subst e2; exact .refl
      · have e3 : y ≠ e := fun e3 => e1 (by rw [e3]; exact hI.root)
        exact .step hi e1 (ih (idm_par h hI hx) ((hI.up y hx e3).2.2 d hd e2))
theorem idm_roots : ∀ n : Nat, n ≤ l.length → roots l n = if e < (n : Int) then 1 else 0 := by
  have he := h.2
  unfold isNode at he
  intro n
  induction n with
  | zero => intro _; rw [if_neg (by omega)]; rfl
  | succ n ih =>
    intro hn
    rw [roots_succ, ih (by omega)]
    have hnode : isNode G (n : Int) := by unfold isNode; rw [← hI.len]; omega
    by_cases e1 : e = (n : Int)
    · have hr : rd l (n : Int) = (n : Int) := by rw [← e1]; exact hI.root
      rw [if_pos hr, if_neg (by omega), if_pos (by omega)]
    · have hr : ¬ rd l (n : Int) = (n : Int) := by
        intro hr
        have h1 : rd l (n : Int) ≠ -1 := by omega
        exact e1 (idm_self h hI ((idm_in h hI hnode).1 h1) hr).symm
      rw [if_neg hr]
      by_cases e2 : e < (n : Int)
      · rw [if_pos e2, if_pos (by omega)]
      · rw [if_neg e2, if_neg (by omega)]
theorem idm_tree : Tree l := by
  refine ⟨fun x hx => ?_, fun x hx h1 => ?_, ?_⟩
  · have hn := (idm_idx h hI).1 hx
    by_cases h1 : rd l x = -1
    · exact ⟨by omega, by rw [h1]; have := hx.1; have := hx.2; omega⟩
    · have h2 := reach_node h (idm_par h hI ((idm_in h hI hn).1 h1))
      unfold isNode at h2
      exact ⟨by omega, by rw [hI.len]; exact h2.2⟩
  · exact idm_up' h hI ((idm_in h hI ((idm_idx h hI).1 hx)).1 h1)
  · rw [idm_roots h hI l.length (Nat.le_refl _), if_pos (by rw [hI.len]; exact h.2.2)]
theorem idm_inT {a b : Int} : InT l a b ↔ Grf.Reach (adj G) e a ∧ Grf.Reach (adj G) e b := by
  constructor
  · rintro ⟨_, h1, h2, h3, h4⟩
    exact ⟨(idm_in h hI ((idm_idx h hI).1 h1)).1 h3, (idm_in h hI ((idm_idx h hI).1 h2)).1 h4⟩
  · rintro ⟨h1, h2⟩
    have n1 := reach_node h h1
    have n2 := reach_node h h2
    exact ⟨idm_tree h hI, (idm_idx h hI).2 n1, (idm_idx h hI).2 n2, (idm_in h hI n1).2 h1, (idm_in h hI n2).2 h2⟩
/-- Dominates on Build's list. -/
theorem idm_dom {a b : Int} : (InT l a b ∧ On l a b) ↔ domG G e a b := by
  rw [idm_inT h hI]
  constructor
  · rintro ⟨⟨_, h1⟩, h2⟩; exact (idm_on h hI h1 a).1 h2
  · intro h1; exact ⟨⟨dom_reach h1, h1.1⟩, (idm_on h hI h1.1 a).2 h1⟩
end
end Go.Proofs.Ytbphjbfnnhfhlaa
end

section
/- DomtreeTree's plain facts: preorder of Build's tree. -/
set_option linter.unusedVariables false
set_option linter.unusedSimpArgs false
set_option linter.unusedSectionVars false
namespace Go.Proofs.Ytbphjbfnnhfhlaa
open Go.RowKit Go.Proofs.YtbphjbfnnhfhlaaW.PrintWords Go.Proofs.Ytbphjbfnnhfhlaa.PDigraphTells Mem

theorem flatMap_split {f : Int → List Int} : ∀ (L a : List Int) (y : Int) (b : List Int), L.flatMap f = a ++ y :: b → ∃ L1 c L2 a' b', L = L1 ++ c :: L2 ∧ f c = a' ++ y :: b' ∧ a = L1.flatMap f ++ a' := by
  intro L
  induction L with
  | nil => intro a y b h; simp at h
  | cons z L ih =>
    intro a y b h
    rw [List.flatMap_cons] at h
    rcases List.append_eq_append_iff.1 h with ⟨u, h1, h2⟩ | ⟨u, h1, h2⟩
    · obtain ⟨L1, c, L2, a', b', e1, e2, e3⟩ := ih u y b h2
      refine ⟨z :: L1, c, L2, a', b', by rw [e1]; rfl, e2, ?_⟩
      rw [h1, e3, List.flatMap_cons, List.append_assoc]
    · cases u with
      | nil =>
        rw [List.append_nil] at h1
        rw [List.nil_append] at h2
        obtain ⟨L1, c, L2, a', b', e1, e2, e3⟩ := ih [] y b h2.symm
        refine ⟨z :: L1, c, L2, a', b', by rw [e1]; rfl, e2, ?_⟩
        rw [← h1, List.flatMap_cons, List.append_assoc, ← e3, List.append_nil]
      | cons u0 u =>
        injection h2 with h3 h4
        subst h3
        exact ⟨[], z, L, a, u, rfl, h1, by simp⟩
theorem preF_par {l : List Int} : ∀ (f : Nat) (x : Int) (a : List Int) (y : Int) (b : List Int), preF l f x = a ++ y :: b → (y = x ∧ a = []) ∨ rd l y ∈ a := by
  intro f
  induction f with
  | zero =>
    intro x a y b h
    rw [preF] at h
    cases a with
    | nil => injection h with h1 _; exact .inl ⟨h1.symm, rfl⟩
    | cons z a => injection h with _ h2; cases a <;> cases h2
  | succ f ih =>
    intro x a y b h
    rw [preF] at h
    cases a with
    | nil => injection h with h1 _; exact .inl ⟨h1.symm, rfl⟩
    | cons z a =>
      rw [List.cons_append] at h
      injection h with h1 h2
      subst h1
      obtain ⟨L1, c, L2, a', b', e1, e2, e3⟩ := flatMap_split _ _ _ _ h2
      rcases ih c a' y b' e2 with ⟨h3, h4⟩ | h3
      · have hc : c ∈ kidsU l l.length x := by rw [e1]; simp
        right
        rw [h3, (mem_kids.1 hc).2.1]
        exact List.mem_cons_self
      · right
        rw [e3]
        exact List.mem_cons_of_mem _ (List.mem_append_right _ h3)
section
variable {G : List (List Int)} {e : Int} {l : List Int} (h : chk G = 0 ∧ isNode G e) (hI : Idm G e l)
include h hI
theorem preU_eq : ∀ n : Nat, n ≤ l.length → (List.range n).flatMap (preG l) = if e < (n : Int) then preF l (l.length - 1) e else [] := by
  have he := h.2
  unfold isNode at he
  intro n
  induction n with
  | zero => intro _; rw [if_neg (by omega)]; rfl
  | succ n ih =>
    intro hn
    rw [List.range_succ, List.flatMap_append, ih (by omega), List.flatMap_cons, List.flatMap_nil, List.append_nil]
    have hnode : isNode G (n : Int) := by unfold isNode; rw [← hI.len]; omega
    unfold preG
    by_cases e1 : e = (n : Int)
    · have hr : rd l (n : Int) = (n : Int) := by rw [← e1]; exact hI.root
      rw [if_pos hr, if_neg (by omega), if_pos (by omega), e1]; rfl
    · have hr : ¬ rd l (n : Int) = (n : Int) := by
        intro hr
        have h1 : rd l (n : Int) ≠ -1 := by omega
        exact e1 (idm_self h hI ((idm_in h hI hnode).1 h1) hr).symm
      rw [if_neg hr, List.append_nil]
      by_cases e2 : e < (n : Int)
      · rw [if_pos e2, if_pos (by omega)]
      · rw [if_neg e2, if_neg (by omega)]
theorem preL_eq : preL l = preF l (l.length - 1) e := by
  have := preU_eq h hI l.length (Nat.le_refl _)
  unfold preL
  rw [this, if_pos (by rw [hI.len]; exact h.2.2)]
theorem upE : Up l e 0 := .root ((idm_idx h hI).2 h.2) hI.root
theorem preL_mem (x : Int) : x ∈ preL l ↔ Grf.Reach (adj G) e x := by
  rw [preL_eq h hI, mem_preF (l.length - 1) e 0 (upE h hI) (by omega)]
  constructor
  · intro ho
    induction ho with
    | refl => exact .refl _
    | @step y hi e1 u ih =>
      refine (idm_in h hI ((idm_idx h hI).1 hi)).1 ?_
      have := (reach_node h ih).1
      omega
  · intro hx
    exact (idm_on h hI hx e).2 ⟨hx, ra_self⟩
theorem preL_nd : (preL l).Nodup := by rw [preL_eq h hI]; exact nd_preF (l.length - 1) e 0 (upE h hI) (by omega)
theorem preL_head : ∃ t, preL l = e :: t := by
  rw [preL_eq h hI]
  cases l.length - 1 with
  | zero => exact ⟨[], rfl⟩
  | succ n => exact ⟨_, rfl⟩
theorem preL_par (i : Nat) (hi : i < (preL l).length) (hne : (preL l)[i] ≠ e) : rd l (preL l)[i] ∈ (preL l).take i := by
  have h1 : preL l = (preL l).take i ++ (preL l)[i] :: (preL l).drop (i + 1) := by
    rw [← List.drop_eq_getElem_cons hi, List.take_append_drop]
  rcases preF_par _ _ _ _ _ ((preL_eq h hI).symm.trans h1) with ⟨h3, _⟩ | h3
  · exact absurd h3 hne
  · exact h3
end
end Go.Proofs.Ytbphjbfnnhfhlaa
end

section
/- slices.Equal of bools. -/
set_option linter.unusedVariables false
set_option linter.unusedSimpArgs false
set_option linter.unusedSectionVars false
namespace Go.Proofs.Ytbphjbfnnhfhlaa
open Go.RowKit Go.Proofs.YtbphjbfnnhfhlaaW.PrintWords Go.Proofs.Ytbphjbfnnhfhlaa.PDigraphTells Mem

theorem eqb_loop (l m : List Bool) (h : l.length = m.length) (hn : l.length ≤ 140737488355328) : ∀ (d i k : Nat), i + d = l.length → d < k → slices_Equal_bool_bool.l0 k l m (l.length : Int) (i : Int) = some (decide (l.drop i = m.drop i)) := by
  intro d
  induction d with
  | zero =>
    intro i k hi hk
    obtain ⟨k, rfl⟩ : ∃ m, k = m + 1 := ⟨k - 1, by omega⟩
    simp only [slices_Equal_bool_bool.l0]
    rw [if_neg (by omega), List.drop_of_length_le (by omega), List.drop_of_length_le (by omega)]
    simp
  | succ d ih =>
    intro i k hi hk
    obtain ⟨k, rfl⟩ : ∃ m, k = m + 1 := ⟨k - 1, by omega⟩
    have hlt : i < l.length := by omega
    have hlt2 : i < m.length := by omega
    have hr : rdOf false l (i : Int) = l[i] := rdB_get l i hlt
    have hr2 : rdOf false m (i : Int) = m[i] := rdB_get m i hlt2
    simp only [slices_Equal_bool_bool.l0]
    rw [if_pos (by omega), if_pos (by omega), if_pos (by omega), if_pos (by omega), hr, hr2, List.drop_eq_getElem_cons hlt, List.drop_eq_getElem_cons hlt2]
    by_cases e : l[i] = m[i]
    · rw [if_neg (by simp [e])]
      have e1 : wrap64 ((i : Int) + 1) = ((i + 1 : Nat) : Int) := by unfold wrap64; omega
      rw [e1, ih (i + 1) k (by omega) (by omega)]
      simp only [List.cons.injEq, e, true_and]
    · rw [if_pos (by simpa using e), decide_eq_false (fun h => e (List.cons.inj h).1)]
theorem eqb_f (l m : List Bool) (hn : l.length ≤ 140737488355328) : slices_Equal_bool_bool.f (l.length + 1) l m = some (decide (l = m)) := by
  unfold slices_Equal_bool_bool.f
  by_cases h : (l.length : Int) = (m.length : Int)
  · rw [if_pos h, show (0 : Int) = ((0 : Nat) : Int) from rfl, eqb_loop l m (by omega) hn l.length 0 _ (by omega) (by omega)]
    simp
  · rw [if_neg h, decide_eq_false (fun e => h (by rw [e]))]
theorem eqb_any (c0 c1 : Nat) (A0 A1 : Option Addr) (l m : List Bool) (w : World) (h0 : Kd.C (Kd.bool) w A0 l.length l) (h1 : Kd.C (Kd.bool) w A1 m.length m) (g0 : l.length ≤ c0) (g1 : m.length ≤ c1) (hl : l.length ≤ 1000000) (b : Bool) (hb : decide (l = m) = b) :
    Calls Try.prog 19 #[.slice A0 l.length c0, .slice A1 m.length c1] w fun e w' => e = .returned (.bool b) ∧ Below w.heap.size w w' := by
  subst hb
  refine (slices_Equal_bool_bool.calls (l.length + 1) A0 c0 l A1 c1 m _ w h0 g0 h1 g1 (eqb_f l m (by omega))).mono ?_
  rintro e w' ⟨rfl, hd⟩
  obtain ⟨n, rfl⟩ := hd.out
  exact ⟨rfl, pw_below_drewN (Below.refl _ _) _⟩
end Go.Proofs.Ytbphjbfnnhfhlaa
end

section
/- DomtreeTree: the law's walk. -/
set_option linter.unusedVariables false
set_option linter.unusedSimpArgs false
set_option linter.unusedSectionVars false
namespace Go.Proofs.Ytbphjbfnnhfhlaa
open Go.RowKit Go.Proofs.YtbphjbfnnhfhlaaW.PrintWords Go.Proofs.Ytbphjbfnnhfhlaa.PDigraphTells Mem

set_option maxRecDepth 100000 in
set_option maxHeartbeats 4000000 in
theorem tree_walk (cs : Array Value) (G : List (List Int)) (e : Int) (w : World) (hK : kGr.K w G cs.toList) (hg : big G) (he : (Lit.int .i64 e).wf = true) :
    Calls Try.prog 5 #[.agg cs, .int .i64 e] w fun e w' => e = .returned (.bool true) ∧ Below w.heap.size w w' := by
  obtain ⟨A, c, rfl, hc, hC⟩ := graph_arg hK
  obtain ⟨r, hr⟩ : ∃ r, chk G = r := ⟨_, rfl⟩
  have hX := Aside0.mk (And.intro hc (And.intro hg.short hr))
  have hfl := field_succs
  have H0 := Aside0.mk (Gw.start (c := c) hC)
  clear hK hg he hC hc hr
  have c0 := H0.out.cell
  go_enter Try.func5, Try.ntmps5
  go_wp2_with fail
  obtain ⟨gb, hgb⟩ : ∃ gb, gb = w.heap.size := ⟨_, rfl⟩
  obtain ⟨w1, hw1⟩ : ∃ w1, w1 = w.alloc (.cells #[.slice A G.length c] 24 (0, 0)) := ⟨_, rfl⟩
  rw [← hgb, ← hw1] at H0
  rw [show Value.pointer (some (⟨w.heap.size, 0, none⟩ : Addr)) = Value.pointer (some ⟨gb, 0, none⟩) by rw [hgb], ← hw1]
  clear hgb hw1 c0
  refine (large_any A c G _ H0.out.C hX.out.1).mono ?_
  rintro e' w2 ⟨bo, rfl, hbo, B2⟩
  have H2 := Aside0.mk (H0.out.step B2)
  have c0 := H2.out.cell
  clear B2 H0
  cases bo
  rotate_left
  · clear hbo
    go_wp2_with fail
    refine (works_any _).mono ?_
    rintro e' w9 ⟨rfl, B9⟩
    have hF := Aside0.mk (H2.out.step B9).b
    clear B9 H2 c0
    go_wp2
    go_ret
    exact ⟨rfl, hF.out⟩
  have hl := hbo rfl
  clear hbo
  go_wp2_with fail
  refine (rcheck_any A c G _ H2.out.C hX.out.1 hX.out.2.1 r hX.out.2.2).mono ?_
  rintro e' w4 ⟨rfl, B4⟩
  have H4 := Aside0.mk (H2.out.step B4)
  clear c0 B4 H2
  have c0 := H4.out.cell
  by_cases hr0 : r = 0
  rotate_left
  · have e1 : (r != 0) = true := by simp [hr0]
    have e2 : (r == 0) = false := by simp [hr0]
    clear hr0
    go_wp2_with fail
    refine (works_any _).mono ?_
    rintro e' w9 ⟨rfl, B9⟩
    have hF := Aside0.mk (H4.out.step B9).b
    clear B9 H4 c0
    go_wp2
    go_ret
    exact ⟨rfl, hF.out⟩
  subst hr0
  by_cases he0 : e < 0
  · go_wp2_with fail
    refine (works_any _).mono ?_
    rintro e' w9 ⟨rfl, B9⟩
    have hF := Aside0.mk (H4.out.step B9).b
    clear B9 H4 c0
    go_wp2
    go_ret
    exact ⟨rfl, hF.out⟩
  have he1 : 0 ≤ e := by omega
  clear he0
  by_cases he2 : (G.length : Int) ≤ e
  · go_wp2_with fail
    refine (works_any _).mono ?_
    rintro e' w9 ⟨rfl, B9⟩
    have hF := Aside0.mk (H4.out.step B9).b
    clear B9 H4 c0
    go_wp2
    go_ret
    exact ⟨rfl, hF.out⟩
  have he3 : e < (G.length : Int) := by omega
  clear he2
  have hN := Aside0.mk (show chk G = 0 ∧ isNode G e from ⟨hX.out.2.2, he1, he3⟩)
  have d1 : decide (e < 0) = false := by simpa using he1
  have d2 : decide ((G.length : Int) ≤ e) = false := by simpa using he3
  go_wp2_with fail
  clear d1 d2
  refine (build_any A c G e _ H4.out.C hX.out.1 hX.out.2.1 (by omega)).mono ?_
  rintro e' w5 ⟨v, l, rfl, hR, hB, B5⟩
  have hI : Idm G e l := by
    rcases hB with ⟨_, hI⟩ | ⟨hn, _⟩
    · exact hI
    · exact absurd hN.out hn
  replace hI := Aside0.mk hI
  obtain ⟨Ai, ci, ev, hci, Ci⟩ := Kd.R_reads hR
  subst ev
  have H5 := Aside0.mk (And.intro (H4.out.step B5) (And.intro hci Ci))
  clear c0 B5 H4 hR hB hci Ci
  have c0 := H5.out.1.cell
  have hlen : l.length ≤ 70 := by rw [hI.out.len]; omega
  have hll := Aside0.mk hI.out.len
  clear c0
  go_wp2_with fail
  refine (preorder_any Ai ci l _ H5.out.2.2 H5.out.2.1 hlen).mono ?_
  rintro e' w6 ⟨v, o, rfl, hR, hO, B6⟩
  have hoe := Aside0.mk (show o = preL l by
    rcases hO with ⟨_, h1⟩ | ⟨h1, _⟩
    · exact h1
    · exact absurd (idm_tree hN.out hI.out) h1)
  obtain ⟨Ao, co, ev, hco, Co⟩ := Kd.R_reads hR
  subst ev
  have H6 := Aside0.mk (And.intro (H5.out.1.step B6) (And.intro (Kd.C_below H5.out.2.2 B6) Co))
  have c0 := H6.out.1.cell
  clear B6 H5 hR hO hco Co
  go_wp2_with fail
  refine (rreach_any A c G e _ H6.out.1.C hX.out.1 hX.out.2.1).mono ?_
  rintro e' w7 ⟨Al, cl, rfl, hcl, Cl, B7⟩
  rw [reachL_len hN.out]
  rw [reachL_len hN.out] at hcl Cl
  have H7 := Aside0.mk (And.intro (H6.out.1.step B7) (And.intro (Kd.C_below H6.out.2.1 B7) (And.intro (Kd.C_below H6.out.2.2 B7) (And.intro hcl Cl))))
  clear c0 B7 H6 hcl Cl
  obtain ⟨ot, hot⟩ := preL_head hN.out hI.out
  rw [← hoe.out] at hot
  have ho1 : 0 < o.length := by rw [hot]; simp
  have ho2 : o.length ≤ 5000 := by
    have := preU_len l l.length (Nat.le_refl _)
    rw [hoe.out]
    exact Nat.le_trans this (by have := Nat.mul_le_mul hlen hlen; omega)
  have ho3 : rd o 0 = e := by rw [hot]; rfl
  have ho4 : rd l e = e := hI.out.root
  clear hot
  obtain ⟨ao, eA, q1⟩ := Kd.at_int H7.out.2.2.1 0 (by omega) (by omega)
  subst eA
  rw [ho3, show ao.add (0 : Int).toNat = ao by simp [Addr.add]] at q1
  obtain ⟨ai, eA, q2⟩ := Kd.at_int H7.out.2.1 e he1 (by rw [hll.out]; exact he3)
  subst eA
  rw [ho4] at q2
  have b1 : ((l.length : Int) != (G.length : Int)) = false := by rw [hll.out]; simp
  have b2 : ((o.length : Int) == 0) = false := by rw [beq_eq_false_iff_ne]; omega
  clear ho3 ho4
  have ho3 := Aside0.mk ho1
  have hlx : e < (l.length : Int) := by rw [hll.out]; exact he3
  have hoi : (0 : Int) < (o.length : Int) := by omega
  clear ho1

  go_wp2_with (at_make; refine Kd.R_make Kd.bool (w0 := w7) 0 4 (by rfl) (N := 65) (by rfl) 35 (.tmp 64) (.tmp 64) (by rfl) (G.length : Int) (by rfl) (by rfl) Try.underlying35 (.bool false) 1 info4 rfl (by decide) (by decide) false (ok := fun k => w7.heap.size ≤ k) (okp := fun _ => False) rfl (fun _ h => h.elim) (Nat.le_refl _) (by omega) (by omega) ((Kp.refl (fun _ => False) w7).belowB (fun _ h => h.elim) (Nat.zero_le _)) (Nat.zero_le _) ?_; intro v2 w8 hRA hBA hgA hatA; rw [Int.toNat_natCast] at hRA; have hb2 : Below w7.heap.size w7 w8 := ((Kp.refl (fun _ => False) w7).grown hgA (fun k hk => by cases hk)).none_below; have H8 := Aside0.mk (And.intro hRA hb2); clear hRA hBA hgA hatA hb2)
  obtain ⟨g, cap, ev, hxx⟩ := Kd.R_form H8.out.1 (by rw [List.length_replicate]; omega)
  clear hxx
  rw [List.length_replicate] at ev
  subst ev
  clear q1 q2
  have hI0 : Aside0 (∃ bs : List Bool, bs.length = G.length ∧ (∀ x, metOf bs x = true ↔ x ∈ o.take 0) ∧ Kd.R Kd.bool 4 w8 0 (fun k => w7.heap.size ≤ k) (.slice (some ⟨g, 0, none⟩) G.length cap) bs ∧ Below w7.heap.size w7 w8) := ⟨_, by simp, fun x => by rw [metOf_false]; simp, H8.out.1, H8.out.2⟩
  clear H8 b1 b2 hlx
  go_wp2_with fail
  go_loopg [68] o.length (fun q v wi => ∃ j : Nat, j + q = o.length ∧ v = .int .i64 (j : Int) ∧ Aside0 (∃ bs : List Bool, bs.length = G.length ∧ (∀ x, metOf bs x = true ↔ x ∈ o.take j) ∧ Kd.R Kd.bool 4 wi 0 (fun k => w7.heap.size ≤ k) (.slice (some ⟨g, 0, none⟩) G.length cap) bs ∧ Below w7.heap.size w7 wi))
  case atStart => exact ⟨0, by omega, rfl, hI0⟩
  case round =>
    obtain ⟨j, hj, rfl, hJ⟩ := hrel
    clear hI0
    by_cases hlt : j < o.length
    · have hlti : (j : Int) < o.length := by omega
      obtain ⟨gk1, rfl⟩ : ∃ q, gk = q + 1 := ⟨gk - 1, by omega⟩
      have hj1 : j + 1 + gk1 = o.length := by omega
      have hgk : gk1 < gk1 + 1 := by omega
      obtain ⟨bs, hbl, hbm, hR, hB⟩ := hJ.out
      obtain ⟨ad, eA, a0⟩ := Kd.at_int (Kd.C_below H7.out.2.2.1 hB) (j : Int) (by omega) hlti
      rw [rd_get o j hlt, Int.toNat_natCast] at a0
      injection eA with eA
      subst eA
      obtain ⟨x, hx⟩ : ∃ x, x = o[j] := ⟨_, rfl⟩
      rw [← hx] at a0
      have hxo : x ∈ preL l := by rw [← hoe.out, hx]; exact List.getElem_mem hlt
      have hxr := (preL_mem hN.out hI.out x).1 hxo
      have hxn := reach_node hN.out hxr
      have hxn' := hxn
      unfold isNode at hxn
      have hx1 := hxn.1
      have hx2 : x < (G.length : Int) := hxn.2
      have hnew : metOf bs x = false := by
        cases e9 : metOf bs x with
        | false => rfl
        | true =>
          have h9 := (hbm x).1 e9
          have hnd := preL_nd hN.out hI.out
          rw [← hoe.out] at hnd
          have hs : o = o.take j ++ o[j] :: o.drop (j + 1) := by rw [← List.drop_eq_getElem_cons hlt, List.take_append_drop]
          rw [hs, List.nodup_append] at hnd
          exact absurd rfl (hnd.2.2 x h9 x (by rw [hx]; exact List.mem_cons_self))
      have hpar : x ≠ e → metOf bs (rd l x) = true := fun hne => (hbm _).2 (by
        have := preL_par hN.out hI.out j (by rw [← hoe.out]; exact hlt) (by simp only [← hoe.out]; rw [← hx]; exact hne)
        simp only [← hoe.out] at this
        rw [← hx] at this
        exact this)
      have hpn := reach_node hN.out (idm_par hN.out hI.out hxr)
      unfold isNode at hpn
      have hp1 := hpn.1
      have hp2 : rd l x < (G.length : Int) := hpn.2
      obtain ⟨b0, f0⟩ := Kd.R_celln false hR x hx1 hx2
      rw [metOf_rd _ _ hx1, hnew] at b0
      obtain ⟨b9, f9⟩ := Kd.R_celln false hR (rd l x) hp1 hp2
      rw [metOf_rd _ _ hp1] at b9
      obtain ⟨ad1, eA, a1⟩ := Kd.at_bool (Kd.C_below H7.out.2.2.2.2 hB) x hx1 hx2
      subst eA
      rw [metOf_rd _ _ hx1, (reachL_get hN.out hxn').2 hxr] at a1
      obtain ⟨ad2, eA, a2⟩ := Kd.at_int (Kd.C_below H7.out.2.1 hB) x hx1 (by rw [hll.out]; exact hx2)
      injection eA with eA
      subst eA
      have hput := Kd.R_putg hR x true
      have hset := metOf_set bs x hx1 (by rw [hbl]; exact hx2)
      have hI1 : Aside0 (∃ bs : List Bool, bs.length = G.length ∧ (∀ x, metOf bs x = true ↔ x ∈ o.take (j + 1)) ∧ Kd.R Kd.bool 4 (wr.setCell ⟨g, x.toNat, none⟩ (.bool true)) 0 (fun k => w7.heap.size ≤ k) (.slice (some ⟨g, 0, none⟩) G.length cap) bs ∧ Below w7.heap.size w7 (wr.setCell ⟨g, x.toNat, none⟩ (.bool true))) := by
        refine ⟨bs.set x.toNat true, by rw [List.length_set]; exact hbl, fun y => ?_, hput.1, hB.setCell (hR.1 g rfl) _⟩
        rw [hset, Grf.mark_iff, hbm y, List.take_succ_eq_append_getElem hlt, List.mem_append, List.mem_singleton, ← hx]
        exact Or.comm
      have d1 : decide (x < 0) = false := by simpa using hx1
      have d2 : decide ((G.length : Int) ≤ x) = false := by simpa using hx2
      have hlx : x < (l.length : Int) := by rw [hll.out]; exact hx2
      by_cases hxe : x = e
      · have d3 : (x != e) = false := by simp [hxe]
        have d4 : (x == e) = true := by simp [hxe]
        clear hput hset hbm hR hB hx hJ hbl hpar hnew hxo hxr hxn hxn' hpn b9 f9 a2 hxe hp1 hp2
        go_wp2_with fail
        go_roundg gk1
        case rel => exact ⟨j + 1, hj1, by go_num, hI1⟩
        case measure => exact hgk
      · have d3 : (x != e) = true := by simp [hxe]
        have d4 : (x == e) = false := by simp [hxe]
        rw [hpar hxe] at b9
        obtain ⟨p, hp⟩ : ∃ p, p = rd l x := ⟨_, rfl⟩
        rw [← hp] at b9 f9 a2 hp1 hp2
        have d5 : decide (p < 0) = false := by simpa using hp1
        have d6 : decide ((G.length : Int) ≤ p) = false := by simpa using hp2
        clear hput hset hbm hR hB hx hJ hbl hpar hnew hxo hxr hxn hxn' hpn hxe hp
        go_wp2_with fail
        go_roundg gk1
        case rel => exact ⟨j + 1, hj1, by go_num, hI1⟩
        case measure => exact hgk
    · obtain ⟨bs, hbl, hbm, hR, hB⟩ := hJ.out
      have he : bs = reachL G e := by
        have hm : ∀ x, metOf bs x = true ↔ Grf.Reach (adj G) e x := fun x => by rw [hbm x, List.take_of_length_le (by omega), hoe.out, preL_mem hN.out hI.out]
        exact reachL_eq hN.out hbl (fun x hx => (hm x).1 hx) ((hm e).2 (.refl e)) (fun x hx y hy => (hm y).2 (.tail ((hm x).1 hx) hy))
      subst he
      have h9 := Kd.R_reads' hR
      have hC1 := h9.2.2
      have hC2 := Kd.C_below H7.out.2.2.2.2 hB
      have hg9 := h9.2.1
      clear h9
      have hlr := reachL_len hN.out
      have hW := Aside0.mk (H7.out.1.step hB)
      have hcall := eqb_any cap cl (some ⟨g, 0, none⟩) Al (reachL G e) (reachL G e) wr hC1 (by rw [hlr]; exact hC2) (by rw [hlr]; exact hg9) (by rw [hlr]; exact H7.out.2.2.2.1) (by rw [hlr]; omega) true (by simp)
      rw [hlr] at hcall
      replace hcall := Aside0.mk hcall
      clear hC1 hC2 hg9 hlr hbm hbl hR hB hJ
      go_wp2_with fail
      refine hcall.out.mono ?_
      rintro e' w10 ⟨rfl, B10⟩
      have H10 := Aside0.mk (hW.out.step B10)
      clear B10 hcall hW
      go_wp2_with fail
      refine (works_any _).mono ?_
      rintro e' w11 ⟨rfl, B11⟩
      have hF := Aside0.mk (H10.out.step B11).b
      clear B11 H10
      go_wp2
      go_ret
      exact ⟨rfl, hF.out⟩
end Go.Proofs.Ytbphjbfnnhfhlaa
end

