import Derived.Test.YtbphjbfnnhfhlaaMRem10
section
/- What works answers. -/
set_option linter.unusedVariables false
set_option linter.unusedSimpArgs false
set_option linter.unusedSectionVars false
namespace Go.Proofs.Ytbphjbfnnhfhlaa
open Go.RowKit Go.Proofs.YtbphjbfnnhfhlaaW.PrintWords Go.Proofs.Ytbphjbfnnhfhlaa.PDigraphTells Mem

/-- The first example's rows lie ready. -/
theorem lit_g1 (w : World) : Kd.C kG (((((w.alloc (.cells #[.int .i64 1, .int .i64 2] 3)).alloc (.cells #[.int .i64 3] 3)).alloc (.cells #[.int .i64 3] 3)).alloc (.cells #[.int .i64 1] 3)).alloc (.cells #[.slice (some ⟨w.heap.size, 0, none⟩) 2 2, .slice (some ⟨w.heap.size + 1, 0, none⟩) 1 1, .slice (some ⟨w.heap.size + 1 + 1, 0, none⟩) 1 1, .slice (some ⟨w.heap.size + 1 + 1 + 1, 0, none⟩) 1 1] 28)) (some ⟨w.heap.size + 1 + 1 + 1 + 1, 0, none⟩) 4 G1 := by
  refine lit_rows _ _ _ G1 _ (by simp) (by decide) fun j x hj => ?_
  rcases j with _ | _ | _ | _ | j
  · obtain rfl : [1, 2] = x := by simpa [G1] using hj
    exact ⟨_, _, rfl, Nat.le_refl _, Kd.C_alloc (Kd.C_alloc (Kd.C_alloc (lit_ints w _ 3 [1, 2] _ rfl rfl (by decide)) _) _) _⟩
  · obtain rfl : [3] = x := by simpa [G1] using hj
    exact ⟨_, _, rfl, Nat.le_refl _, Kd.C_alloc (Kd.C_alloc (lit_ints _ _ 3 [3] _ (by simp) rfl (by decide)) _) _⟩
  · obtain rfl : [3] = x := by simpa [G1] using hj
    exact ⟨_, _, rfl, Nat.le_refl _, Kd.C_alloc (lit_ints _ _ 3 [3] _ (by simp) rfl (by decide)) _⟩
  · obtain rfl : [1] = x := by simpa [G1] using hj
    exact ⟨_, _, rfl, Nat.le_refl _, lit_ints _ _ 3 [1] _ (by simp) rfl (by decide)⟩
  · simp [G1] at hj
theorem lit_g2 (w : World) : Kd.C kG (((w.alloc (.cells #[.int .i64 1] 3)).alloc (.cells #[.int .i64 2] 3)).alloc (.cells #[.slice (some ⟨w.heap.size, 0, none⟩) 1 1, .slice (some ⟨w.heap.size + 1, 0, none⟩) 1 1, .slice none 0 0] 28)) (some ⟨w.heap.size + 1 + 1, 0, none⟩) 3 G2 := by
  refine lit_rows _ _ _ G2 _ (by simp) (by decide) fun j x hj => ?_
  rcases j with _ | _ | _ | j
  · obtain rfl : [1] = x := by simpa [G2] using hj
    exact ⟨_, _, rfl, Nat.le_refl _, Kd.C_alloc (lit_ints w _ 3 [1] _ rfl rfl (by decide)) _⟩
  · obtain rfl : [2] = x := by simpa [G2] using hj
    exact ⟨_, _, rfl, Nat.le_refl _, lit_ints _ _ 3 [2] _ (by simp) rfl (by decide)⟩
  · obtain rfl : [] = x := by simpa [G2] using hj
    exact ⟨none, 0, rfl, Nat.le_refl _, Kd.C_nil _ _⟩
  · simp [G2] at hj

/-- slices.Equal against a row of four numbers written just now. -/
theorem eq_lit (A : Option Addr) (c : Nat) (x : List Int) (cs : Array Value) (w : World) (g : Nat) (hg : w.heap.size = g) (hA : Kd.C (Kd.int .i64) w A 4 x) (hc : 4 ≤ c) (hcs : cs.toList = x.map (Value.int .i64)) (hn : x.length = 4) :
    Calls Try.prog 11 #[.slice A 4 c, .slice (some ⟨g, 0, none⟩) 4 4] (w.alloc (.cells cs 3 (0, 0))) fun e w' => e = .returned (.bool true) ∧ Below w.heap.size w w' := by
  have h := eqi_any c 4 A (some ⟨g, 0, none⟩) x x (w.alloc (.cells cs 3 (0, 0))) (by rw [hn]; exact Kd.C_alloc hA _) (lit_ints w cs 3 x g hg hcs (by omega)) (by omega) (by omega) (by omega) true (by simp)
  rw [hn] at h
  refine h.mono ?_
  rintro e w' ⟨rfl, B⟩
  exact ⟨rfl, (below_alloc (Below.refl _ w) _).trans (B.mono (by simp))⟩

set_option maxRecDepth 100000 in
set_option maxHeartbeats 4000000 in
theorem works_any (w : World) : Calls Try.prog 10 #[] w fun e w' => e = .returned (.bool true) ∧ Below w.heap.size w w' := by
  go_enter Try.func10, Try.ntmps10
  go_wp2_with fail
  refine (build_any _ 4 G1 0 _ (lit_g1 w) (by decide) ⟨by decide, by decide⟩ (by decide)).mono ?_
  rintro e' w1 ⟨v, l, rfl, hR, hB, B1⟩
  obtain rfl := bld1 hB
  obtain ⟨A1, c1, ev, hc1, C1⟩ := Kd.R_reads hR
  subst ev
  have H1 := Aside0.mk (show Below w.heap.size w w1 ∧ 4 ≤ c1 ∧ Kd.C (Kd.int .i64) w1 A1 4 [0, 0, 0, 0] from ⟨(below_alloc (below_alloc (below_alloc (below_alloc (below_alloc (Below.refl _ w) _) _) _) _) _).trans (B1.mono (by simp; omega)), hc1, C1⟩)
  clear hR hB B1 hc1 C1
  go_wp2_with fail
  refine (postdom_any _ 3 G2 _ (lit_g2 w1) (by decide) ⟨by decide, by decide⟩ (by decide)).mono ?_
  rintro e' w2 ⟨v, l, rfl, hR, hB, B2⟩
  obtain rfl : l = [1, 2, 3, 3] := by
    rcases hB with ⟨_, hB⟩ | ⟨hn, _⟩
    · exact bld2 hB
    · exact absurd g2_ok hn
  obtain ⟨A2, c2, ev, hc2, C2⟩ := Kd.R_reads hR
  subst ev
  have b2 : Below w1.heap.size w1 w2 := (below_alloc (below_alloc (below_alloc (Below.refl _ w1) _) _) _).trans (B2.mono (by simp; omega))
  have H2 := Aside0.mk (show (Below w.heap.size w w2 ∧ 4 ≤ c1 ∧ Kd.C (Kd.int .i64) w2 A1 4 [0, 0, 0, 0]) ∧ 4 ≤ c2 ∧ Kd.C (Kd.int .i64) w2 A2 4 [1, 2, 3, 3] from ⟨⟨H1.out.1.trans (b2.mono H1.out.1.size), H1.out.2.1, Kd.C_below H1.out.2.2 b2⟩, hc2, C2⟩)
  clear hR hB B2 hc2 C2 b2 H1
  go_wp2_with fail
  refine (eq_lit A1 c1 [0, 0, 0, 0] _ w2 _ rfl H2.out.1.2.2 H2.out.1.2.1 rfl rfl).mono ?_
  rintro e' w3 ⟨rfl, B3⟩
  have H3 := Aside0.mk (show (Below w.heap.size w w3 ∧ 4 ≤ c1 ∧ Kd.C (Kd.int .i64) w3 A1 4 [0, 0, 0, 0]) ∧ 4 ≤ c2 ∧ Kd.C (Kd.int .i64) w3 A2 4 [1, 2, 3, 3] from ⟨⟨H2.out.1.1.trans (B3.mono H2.out.1.1.size), H2.out.1.2.1, Kd.C_below H2.out.1.2.2 B3⟩, H2.out.2.1, Kd.C_below H2.out.2.2 B3⟩)
  clear B3 H2
  go_wp2_with fail
  refine (common_dom_any A1 c1 [0, 0, 0, 0] 1 2 _ H3.out.1.2.2 H3.out.1.2.1 (by decide)).mono ?_
  rintro e' w4 ⟨r, rfl, hr, B4⟩
  obtain rfl : r = 0 := by
    rcases hr with ⟨_, h⟩ | ⟨h, _⟩
    · exact low1 h
    · exact absurd int1 h
  have H4 := Aside0.mk (show (Below w.heap.size w w4 ∧ 4 ≤ c1 ∧ Kd.C (Kd.int .i64) w4 A1 4 [0, 0, 0, 0]) ∧ 4 ≤ c2 ∧ Kd.C (Kd.int .i64) w4 A2 4 [1, 2, 3, 3] from ⟨⟨H3.out.1.1.trans (B4.mono H3.out.1.1.size), H3.out.1.2.1, Kd.C_below H3.out.1.2.2 B4⟩, H3.out.2.1, Kd.C_below H3.out.2.2 B4⟩)
  clear hr B4 H3
  go_wp2_with fail
  refine (preorder_any A1 c1 [0, 0, 0, 0] _ H4.out.1.2.2 H4.out.1.2.1 (by decide)).mono ?_
  rintro e' w5 ⟨v, o, rfl, hR, ho, B5⟩
  obtain rfl : o = [0, 1, 2, 3] := by
    rcases ho with ⟨_, h⟩ | ⟨h, _⟩
    · rw [h]; exact pre1
    · exact absurd tree1 h
  obtain ⟨A3, c3, ev, hc3, C3⟩ := Kd.R_reads hR
  subst ev
  have H5 := Aside0.mk (show (Below w.heap.size w w5 ∧ 4 ≤ c2 ∧ Kd.C (Kd.int .i64) w5 A2 4 [1, 2, 3, 3]) ∧ 4 ≤ c3 ∧ Kd.C (Kd.int .i64) w5 A3 4 [0, 1, 2, 3] from ⟨⟨H4.out.1.1.trans (B5.mono H4.out.1.1.size), H4.out.2.1, Kd.C_below H4.out.2.2 B5⟩, hc3, C3⟩)
  clear hR ho B5 H4 hc3 C3
  go_wp2_with fail
  refine (eq_lit A3 c3 [0, 1, 2, 3] _ w5 _ rfl H5.out.2.2 H5.out.2.1 rfl rfl).mono ?_
  rintro e' w6 ⟨rfl, B6⟩
  have H6 := Aside0.mk (show Below w.heap.size w w6 ∧ 4 ≤ c2 ∧ Kd.C (Kd.int .i64) w6 A2 4 [1, 2, 3, 3] from ⟨H5.out.1.1.trans (B6.mono H5.out.1.1.size), H5.out.1.2.1, Kd.C_below H5.out.1.2.2 B6⟩)
  clear B6 H5
  go_wp2_with fail
  refine (eq_lit A2 c2 [1, 2, 3, 3] _ w6 _ rfl H6.out.2.2 H6.out.2.1 rfl rfl).mono ?_
  rintro e' w7 ⟨rfl, B7⟩
  have H7 := Aside0.mk (H6.out.1.trans (B7.mono H6.out.1.size))
  clear B7 H6
  go_wp2
  go_ret
  exact ⟨rfl, H7.out⟩
end Go.Proofs.Ytbphjbfnnhfhlaa
end

section
/- large; what the laws' walks share. -/
set_option linter.unusedVariables false
set_option linter.unusedSimpArgs false
set_option linter.unusedSectionVars false
namespace Go.Proofs.Ytbphjbfnnhfhlaa
open Go.RowKit Go.Proofs.YtbphjbfnnhfhlaaW.PrintWords Go.Proofs.Ytbphjbfnnhfhlaa.PDigraphTells Mem

theorem large_l0 (G : List (List Int)) (hl : G.length ≤ 60) : ∀ (d i k s : Nat), i + d = G.length → d < k → s ≤ 200 * i → ∃ b, burnishlaw08_large.l0 k (s : Int) G (G.length : Int) (i : Int) = some b := by
  intro d
  induction d with
  | zero =>
    intro i k s hi hk hs
    obtain ⟨k, rfl⟩ : ∃ m, k = m + 1 := ⟨k - 1, by omega⟩
    simp only [burnishlaw08_large.l0]
    rw [if_neg (by omega)]
    exact ⟨_, rfl⟩
  | succ d ih =>
    intro i k s hi hk hs
    obtain ⟨k, rfl⟩ : ∃ m, k = m + 1 := ⟨k - 1, by omega⟩
    simp only [burnishlaw08_large.l0]
    rw [if_pos (by omega), if_pos (by omega), if_pos (by omega)]
    by_cases h : ((rd_L1 G (i : Int)).length : Int) > 200
    · rw [if_pos h]; exact ⟨_, rfl⟩
    · rw [if_neg h]
      have e1 : wrap64 ((s : Int) + ((rd_L1 G (i : Int)).length : Int)) = ((s + (rd_L1 G (i : Int)).length : Nat) : Int) := by unfold wrap64; omega
      have e2 : wrap64 ((i : Int) + 1) = ((i + 1 : Nat) : Int) := by unfold wrap64; omega
      rw [e1, e2]
      exact ih (i + 1) k _ (by omega) (by omega) (by omega)
theorem large_any (A : Option Addr) (c : Nat) (G : List (List Int)) (w : World) (hC : Kd.C kG w A G.length G) (hc : G.length ≤ c) :
    Calls Try.prog 9 #[.agg #[.slice A G.length c]] w fun e w' => ∃ b, e = .returned (.bool b) ∧ (b = false → G.length ≤ 60) ∧ Below w.heap.size w w' := by
  by_cases h : (G.length : Int) > 60
  · refine (burnishlaw08_large.calls 0 A c G true w hC hc (by unfold burnishlaw08_large.f; rw [if_pos h])).mono ?_
    rintro e w' ⟨rfl, hb⟩
    exact ⟨true, rfl, fun h => (by cases h), by first | exact hb | (obtain ⟨n, rfl⟩ := hb.out; exact pw_below_drewN (Below.refl _ _) _)⟩
  · obtain ⟨b, hb⟩ := large_l0 G (by omega) G.length 0 (G.length + 1) 0 (by omega) (by omega) (by omega)
    refine (burnishlaw08_large.calls (G.length + 1) A c G b w hC hc (by unfold burnishlaw08_large.f; rw [if_neg h]; exact hb)).mono ?_
    rintro e w' ⟨rfl, hb⟩
    exact ⟨b, rfl, fun _ => by omega, by first | exact hb | (obtain ⟨n, rfl⟩ := hb.out; exact pw_below_drewN (Below.refl _ _) _)⟩
end Go.Proofs.Ytbphjbfnnhfhlaa
end

section
/- The list of immediate dominators is a dominator tree: On is dominance. -/
set_option linter.unusedVariables false
set_option linter.unusedSimpArgs false
set_option linter.unusedSectionVars false
namespace Go.Proofs.Ytbphjbfnnhfhlaa
open Go.RowKit Go.Proofs.YtbphjbfnnhfhlaaW.PrintWords Go.Proofs.Ytbphjbfnnhfhlaa.PDigraphTells Mem

theorem dom_anti {G : List (List Int)} {e u v : Int} (h1 : domG G e u v) (h2 : domG G e v u) : u = v := by
  by_cases h9 : u = v
  · exact h9
  · exfalso
    have key : ∀ y, Grf.Reach (adj G) e y → (RA (adj G) e v u ∨ RA (adj G) e u v) ∨ (RA (adj G) e u y ∧ RA (adj G) e v y) := by
      intro y hy
      induction hy with
      | refl =>
        by_cases e1 : e = u
        · subst e1; exact .inl (.inl (.base h9))
        · by_cases e2 : e = v
          · subst e2; exact .inl (.inr (.base e1))
          · exact .inr ⟨.base e1, .base e2⟩
      | @tail b y hb hy ih =>
        rcases ih with ih | ⟨ia, ib⟩
        · exact .inl ih
        · by_cases e1 : y = u
          · subst e1; exact .inl (.inl (.step ib hy h9))
          · by_cases e2 : y = v
            · subst e2; exact .inl (.inr (.step ia hy e1))
            · exact .inr ⟨.step ia hy e1, .step ib hy e2⟩
    rcases key v h1.1 with (h | h) | ⟨_, h⟩
    · exact h2.2 h
    · exact h1.2 h
    · exact h.ne rfl
theorem dom_trans {G : List (List Int)} {e d p x : Int} (h1 : domG G e d p) (h2 : domG G e p x) : domG G e d x := by
  refine ⟨h2.1, fun hr => ?_⟩
  have key : ∀ y, RA (adj G) e d y → RA (adj G) e p y ∨ RA (adj G) e d p := by
    intro y hy
    induction hy with
    | base h3 =>
      by_cases e1 : e = p
      · subst e1; exact .inr (.base h3)
      · exact .inl (.base e1)
    | @step b y hb hy hn ih =>
      rcases ih with ih | ih
      · by_cases e1 : y = p
        · subst e1; exact .inr (.step hb hy hn)
        · exact .inl (.step ih hy e1)
      · exact .inr ih
  rcases key x hr with h | h
  · exact h2.2 h
  · exact h1.2 h
theorem dom_reach {G : List (List Int)} {e p x : Int} (h : domG G e p x) : Grf.Reach (adj G) e p := by
  by_cases h9 : Grf.Reach (adj G) e p
  · exact h9
  · exfalso
    apply h.2
    have key : ∀ y, Grf.Reach (adj G) e y → RA (adj G) e p y := by
      intro y hy
      induction hy with
      | refl => exact .base (fun e1 => h9 (by rw [← e1]; exact .refl _))
      | @tail b y hb hy ih => exact .step ih hy (fun e1 => h9 (by rw [← e1]; exact hb.tail hy))
    exact key x h.1
theorem dom_self {G : List (List Int)} {e x : Int} (h : Grf.Reach (adj G) e x) : domG G e x x := ⟨h, fun h => h.ne rfl⟩
theorem dom_root {G : List (List Int)} {e d : Int} (h : domG G e d e) : d = e := by
  by_cases h1 : d = e
  · exact h1
  · exact absurd (.base (Ne.symm h1)) h.2
section
variable {G : List (List Int)} {e : Int} {l : List Int} (h : chk G = 0 ∧ isNode G e) (hI : Idm G e l)
include h hI
theorem idm_idx {x : Int} : idx l x ↔ isNode G x := by unfold idx isNode; rw [hI.len]
theorem idm_par {x : Int} (hx : Grf.Reach (adj G) e x) : Grf.Reach (adj G) e (rd l x) := by
  by_cases e1 : x = e
  · rw [e1, hI.root]; exact .refl _
  · exact dom_reach (hI.up x hx e1).1
theorem idm_in {x : Int} (hx : isNode G x) : rd l x ≠ -1 ↔ Grf.Reach (adj G) e x := by
  constructor
  · intro h1
    by_cases h2 : Grf.Reach (adj G) e x
    · exact h2
    · exact absurd (hI.out x hx h2) h1
  · intro h1 h2
    have h3 := (reach_node h (idm_par h hI h1)).1
    omega
theorem idm_self {x : Int} (hx : Grf.Reach (adj G) e x) (h1 : rd l x = x) : x = e := by
  by_cases e1 : x = e
  · exact e1
  · exact absurd h1 (hI.up x hx e1).2.1
theorem idm_up : ∀ (n : Nat) (x : Int), Grf.Reach (adj G) e x → (∀ (L : List Int), L.Nodup → (∀ v ∈ L, domG G e v x) → L.length ≤ n) → ∃ k, Up l x k := by
  intro n
  induction n with
  | zero =>
    intro x hx hL
    have := hL [x] (by simp) (fun v hv => by rw [List.mem_singleton.1 hv]; exact dom_self hx)
    simp at this
  | succ n ih =>
    intro x hx hL
    have hxi := (idm_idx h hI).2 (reach_node h hx)
    by_cases e1 : x = e
    · exact ⟨0, .root hxi (by rw [e1]; exact hI.root)⟩
    · obtain ⟨a1, a2, a3⟩ := hI.up x hx e1
      obtain ⟨k, hk⟩ := ih (rd l x) (dom_reach a1) (fun L hn hv => by
        have hx2 : x ∉ L := fun hm => a2 (dom_anti a1 (hv x hm))
        have := hL (x :: L) (List.nodup_cons.2 ⟨hx2, hn⟩) (fun v hv2 => by
          rcases List.mem_cons.1 hv2 with rfl | h3
          · exact dom_self hx
          · exact dom_trans (hv v h3) a1)
        rw [List.length_cons] at this
        omega)
      exact ⟨k + 1, .step hxi a2 hk⟩
theorem idm_up' {x : Int} (hx : Grf.Reach (adj G) e x) : ∃ k, Up l x k := by
  refine idm_up h hI (nodes G).length x hx (fun L hn hv => ?_)
  exact nodup_len L (nodes G) hn (fun v hm => (mem_nodes G v).2 (reach_node h (dom_reach (hv v hm))))
theorem idm_on {x : Int} (hx : Grf.Reach (adj G) e x) (d : Int) : On l d x ↔ domG G e d x := by
  constructor
  · intro ho
    induction ho with
    | refl => exact dom_self hx
    | @step y hi e1 u ih =>
      have hp := ih (idm_par h hI hx)
      by_cases e2 : y = e
      · exact absurd (by rw [e2]; exact hI.root) e1
      · exact dom_trans hp (hI.up y hx e2).1
  · intro hd
    obtain ⟨k, hk⟩ := idm_up' h hI hx
    induction hk with
    | @root y hi e1 =>
      have := idm_self h hI hx e1
      subst this
      rw [dom_root hd]
      exact .refl
    | @step y k hi e1 u ih =>
      by_cases e2 : d = y
      · subst e2; exact .refl
      · have e3 : y ≠ e := fun e3 => e1 (by rw [e3]; exact hI.root)
        exact .step hi e1 (ih (idm_par h hI hx) ((hI.up y hx e3).2.2 d hd e2))
theorem idm_roots : ∀ n : Nat, n ≤ l.length → roots l n = if e < (n : Int) then 1 else 0 := by
  have he := h.2
  unfold isNode at he
  intro n
  induction n with
  | zero => intro _; rw [if_neg (by omega)]; rfl
  | succ n ih =>
    intro hn
    rw [roots_succ, ih (by omega)]
    have hnode : isNode G (n : Int) := by unfold isNode; rw [← hI.len]; omega
    by_cases e1 : e = (n : Int)
    · have hr : rd l (n : Int) = (n : Int) := by rw [← e1]; exact hI.root
      rw [if_pos hr, if_neg (by omega), if_pos (by omega)]
    · have hr : ¬ rd l (n : Int) = (n : Int) := by
        intro hr
        have h1 : rd l (n : Int) ≠ -1 := by omega
        exact e1 (idm_self h hI ((idm_in h hI hnode).1 h1) hr).symm
      rw [if_neg hr]
      by_cases e2 : e < (n : Int)
      · rw [if_pos e2, if_pos (by omega)]
      · rw [if_neg e2, if_neg (by omega)]
theorem idm_tree : Tree l := by
  refine ⟨fun x hx => ?_, fun x hx h1 => ?_, ?_⟩
  · have hn := (idm_idx h hI).1 hx
    by_cases h1 : rd l x = -1
    · exact ⟨by omega, by rw [h1]; have := hx.1; have := hx.2; omega⟩
    · have h2 := reach_node h (idm_par h hI ((idm_in h hI hn).1 h1))
      unfold isNode at h2
      exact ⟨by omega, by rw [hI.len]; exact h2.2⟩
  · exact idm_up' h hI ((idm_in h hI ((idm_idx h hI).1 hx)).1 h1)
  · rw [idm_roots h hI l.length (Nat.le_refl _), if_pos (by rw [hI.len]; exact h.2.2)]
theorem idm_inT {a b : Int} : InT l a b ↔ Grf.Reach (adj G) e a ∧ Grf.Reach (adj G) e b := by
  constructor
  · rintro ⟨_, h1, h2, h3, h4⟩
    exact ⟨(idm_in h hI ((idm_idx h hI).1 h1)).1 h3, (idm_in h hI ((idm_idx h hI).1 h2)).1 h4⟩
  · rintro ⟨h1, h2⟩
    have n1 := reach_node h h1
    have n2 := reach_node h h2
    exact ⟨idm_tree h hI, (idm_idx h hI).2 n1, (idm_idx h hI).2 n2, (idm_in h hI n1).2 h1, (idm_in h hI n2).2 h2⟩
/-- Dominates on Build's list. -/
theorem idm_dom {a b : Int} : (InT l a b ∧ On l a b) ↔ domG G e a b := by
  rw [idm_inT h hI]
  constructor
  · rintro ⟨⟨_, h1⟩, h2⟩; exact (idm_on h hI h1 a).1 h2
  · intro h1; exact ⟨⟨dom_reach h1, h1.1⟩, (idm_on h hI h1.1 a).2 h1⟩
end
end Go.Proofs.Ytbphjbfnnhfhlaa
end

section
/- What 'reached' answers: the nodes that are reachable without one of them; and 'large' with the rows' bound. -/
set_option linter.unusedVariables false
set_option linter.unusedSimpArgs false
set_option linter.unusedSectionVars false
namespace Go.Proofs.Ytbphjbfnnhfhlaa
open Go.RowKit Go.Proofs.YtbphjbfnnhfhlaaW.PrintWords Go.Proofs.Ytbphjbfnnhfhlaa.PDigraphTells Mem

theorem large2_l0 (G : List (List Int)) (hl : G.length ≤ 60) : ∀ (d i k s : Nat), i + d = G.length → d < k → s ≤ 200 * i → ∃ b, burnishlaw08_large.l0 k (s : Int) G (G.length : Int) (i : Int) = some b ∧ (b = false → ∀ j : Nat, i ≤ j → j < G.length → (rd_L1 G (j : Int)).length ≤ 200) := by
  intro d
  induction d with
  | zero =>
    intro i k s hi hk hs
    obtain ⟨k, rfl⟩ : ∃ m, k = m + 1 := ⟨k - 1, by omega⟩
    simp only [burnishlaw08_large.l0]
    rw [if_neg (by omega)]
    exact ⟨_, rfl, fun _ j h1 h2 => by omega⟩
  | succ d ih =>
    intro i k s hi hk hs
    obtain ⟨k, rfl⟩ : ∃ m, k = m + 1 := ⟨k - 1, by omega⟩
    simp only [burnishlaw08_large.l0]
    rw [if_pos (by omega), if_pos (by omega), if_pos (by omega)]
    by_cases h : ((rd_L1 G (i : Int)).length : Int) > 200
    · rw [if_pos h]; exact ⟨_, rfl, fun h => by cases h⟩
    · rw [if_neg h]
      have e1 : wrap64 ((s : Int) + ((rd_L1 G (i : Int)).length : Int)) = ((s + (rd_L1 G (i : Int)).length : Nat) : Int) := by unfold wrap64; omega
      have e2 : wrap64 ((i : Int) + 1) = ((i + 1 : Nat) : Int) := by unfold wrap64; omega
      rw [e1, e2]
      obtain ⟨b, hb, hq⟩ := ih (i + 1) k (s + (rd_L1 G (i : Int)).length) (by omega) (by omega) (by omega)
      refine ⟨b, hb, fun h9 j h1 h2 => ?_⟩
      by_cases e : j = i
      · subst e; omega
      · exact hq h9 j (by omega) h2
theorem large2_any (A : Option Addr) (c : Nat) (G : List (List Int)) (w : World) (hC : Kd.C kG w A G.length G) (hc : G.length ≤ c) :
    Calls Try.prog 9 #[.agg #[.slice A G.length c]] w fun e w' => ∃ b, e = .returned (.bool b) ∧ (b = false → G.length ≤ 60 ∧ ∀ l ∈ G, l.length ≤ 200) ∧ Below w.heap.size w w' := by
  by_cases h : (G.length : Int) > 60
  · refine (burnishlaw08_large.calls 0 A c G true w hC hc (by unfold burnishlaw08_large.f; rw [if_pos h])).mono ?_
    rintro e w' ⟨rfl, hb⟩
    exact ⟨true, rfl, fun h => (by cases h), by first | exact hb | (obtain ⟨n, rfl⟩ := hb.out; exact pw_below_drewN (Below.refl _ _) _)⟩
  · obtain ⟨b, hb, hq⟩ := large2_l0 G (by omega) G.length 0 (G.length + 1) 0 (by omega) (by omega) (by omega)
    refine (burnishlaw08_large.calls (G.length + 1) A c G b w hC hc (by unfold burnishlaw08_large.f; rw [if_neg h]; exact hb)).mono ?_
    rintro e w' ⟨rfl, hb⟩
    refine ⟨b, rfl, fun h9 => ⟨by omega, fun l hl => ?_⟩, by first | exact hb | (obtain ⟨n, rfl⟩ := hb.out; exact pw_below_drewN (Below.refl _ _) _)⟩
    obtain ⟨j, hj, rfl⟩ := List.getElem_of_mem hl
    have := hq h9 j (by omega) hj
    rwa [rd1_get G j hj] at this

def cutR (G : List (List Int)) (a : Int) (i : Nat) (row : List Int) : List Int := if (i : Int) = a then [] else row.filter fun s => decide (s ≠ a)
/-- The graph without the edges of a. -/
def cutG (G : List (List Int)) (a : Int) : List (List Int) := (List.range G.length).map fun i => cutR G a i (rd_L1 G (i : Int))
theorem cut_len (G : List (List Int)) (a : Int) : (cutG G a).length = G.length := by simp [cutG]
theorem cut_get (G : List (List Int)) (a : Int) (i : Nat) (h : i < (cutG G a).length) : (cutG G a)[i] = cutR G a i (rd_L1 G (i : Int)) := by simp [cutG]
theorem cutR_len (G : List (List Int)) (a : Int) (i : Nat) (row : List Int) : (cutR G a i row).length ≤ row.length := by
  unfold cutR
  split
  · simp
  · exact List.length_filter_le _ _
theorem mem_cutR {G : List (List Int)} {a : Int} {i : Nat} {row : List Int} {s : Int} : s ∈ cutR G a i row ↔ (i : Int) ≠ a ∧ s ∈ row ∧ s ≠ a := by
  unfold cutR
  split
  · rename_i h; simp [h]
  · rename_i h
    rw [List.mem_filter]
    simp [h]
theorem reached_l1 {G : List (List Int)} {e a : Int} {i : Nat} {row : List Int} {H : List (List Int)} {r : List Bool} (hrow : row.length ≤ 200) (hH : H.length ≤ 60) (hi : i < 60) : ∀ (d j : Nat) (m : List Int), j + d = row.length → m.length ≤ j →
    Ev (fun q => burnishlaw08_reached.l0 q e a G (G.length : Int) ((i + 1 : Nat) : Int) G (H ++ [m ++ cutR G a i (row.drop j)])) r → Ev (fun q => burnishlaw08_reached.l1 q e a (i : Int) m G (G.length : Int) (i : Int) row (row.length : Int) (j : Int) G H) r := by
  intro d
  induction d with
  | zero =>
    intro j m hj hm h
    rw [List.drop_of_length_le (by omega), show cutR G a i [] = [] by unfold cutR; split <;> rfl, List.append_nil] at h
    refine Ev.suc (fun q => ?_) h
    show burnishlaw08_reached.l1 (q + 1) _ _ _ _ _ _ _ _ _ _ _ _ = _
    rw [burnishlaw08_reached.l1, if_neg (by omega), if_pos (by omega), w64 i (i + 1) (by omega) (by omega)]
  | succ d ih =>
    intro j m hj hm h
    have hlt : j < row.length := by omega
    have hsp : row.drop j = row[j] :: row.drop (j + 1) := List.drop_eq_getElem_cons hlt
    have hstep : ∀ q, burnishlaw08_reached.l1 (q + 1) e a (i : Int) m G (G.length : Int) (i : Int) row (row.length : Int) (j : Int) G H = burnishlaw08_reached.l1 q e a (i : Int) (if (i : Int) = a then m else if row[j] = a then m else m ++ [row[j]]) G (G.length : Int) (i : Int) row (row.length : Int) ((j + 1 : Nat) : Int) G H := by
      intro q
      rw [burnishlaw08_reached.l1, if_pos (by omega), if_pos (by omega), if_pos (by omega), rd_get row j hlt, w64 j (j + 1) (by omega) (by omega)]
      by_cases h1 : (i : Int) = a
      · rw [if_pos h1, if_pos h1]
      · rw [if_neg h1, if_neg h1]
        by_cases h2 : row[j] = a
        · rw [if_pos h2, if_pos h2]
        · rw [if_neg h2, if_neg h2, if_pos (by omega)]
    refine Ev.suc hstep (ih (j + 1) _ (by omega) ?_ ?_)
    · split
      · omega
      · split
        · omega
        · rw [List.length_append, List.length_singleton]; omega
    · have : (if (i : Int) = a then m else if row[j] = a then m else m ++ [row[j]]) ++ cutR G a i (row.drop (j + 1)) = m ++ cutR G a i (row.drop j) := by
        rw [hsp]
        unfold cutR
        by_cases h1 : (i : Int) = a
        · simp [h1]
        · by_cases h2 : row[j] = a
          · simp [h1, h2]
          · simp only [if_neg h1, if_neg h2]; rw [List.filter_cons, if_pos (by simpa using h2), List.append_assoc]; rfl
      rw [this]
      exact h
/-- What 'reached' hands back. -/
noncomputable def remL (G : List (List Int)) (e a : Int) : List Bool := if e = a then List.replicate G.length false else reachL (cutG G a) e
theorem reached_l0 {G : List (List Int)} {e a : Int} (hl : G.length ≤ 60) (hr : ∀ l ∈ G, l.length ≤ 200) : ∀ (d i : Nat) (H : List (List Int)), i + d = G.length → H = (cutG G a).take i →
    Ev (fun q => burnishlaw08_reached.l0 q e a G (G.length : Int) (i : Int) G H) (remL G e a) := by
  have hcl := cut_len G a
  have hsh : short (cutG G a) := ⟨by omega, fun l hm => by
    obtain ⟨j, hj, rfl⟩ := List.getElem_of_mem hm
    have h1 : j < G.length := by omega
    rw [cut_get]
    have h2 := cutR_len G a j (rd_L1 G (j : Int))
    rw [rd1_get G j h1] at h2 ⊢
    have := hr G[j] (List.getElem_mem h1)
    omega⟩
  intro d
  induction d with
  | zero =>
    intro i H hi hH
    rw [List.take_of_length_le (by omega)] at hH
    subst hH
    refine Ev.suc (h := fun q => (burnishref06_Reachable.f q (cutG G a) e).bind fun t209 => (if e = a then (if 0 ≤ (G.length : Int) then (if ((G.length : Int) : Int).toNat ≤ 281474976710656 then (some (List.replicate ((G.length : Int) : Int).toNat false)) else (none)) else (none)) else (some t209))) (fun q => ?_) (Ev.bind (rreach_f (cutG G a) hsh e) ?_)
    · show burnishlaw08_reached.l0 (q + 1) _ _ _ _ _ _ _ = _
      rw [burnishlaw08_reached.l0, if_neg (by omega)]
    · unfold remL
      by_cases h : e = a
      · rw [if_pos h]
        exact Ev.of (fun q => by rw [if_pos h, if_pos (by omega), if_pos (by omega)]; rfl) (Ev.ret _)
      · rw [if_neg h]
        exact Ev.of (fun q => by rw [if_neg h]) (Ev.ret _)
  | succ d ih =>
    intro i H hi hH
    have h1 : i < G.length := by omega
    have hrow := hr G[i] (List.getElem_mem h1)
    have h2 := ih (i + 1) (H ++ [cutR G a i G[i]]) (by omega) (by rw [List.take_succ_eq_append_getElem (by omega), ← hH, cut_get, rd1_get G i h1])
    have h3 := reached_l1 (G := G) (e := e) (a := a) (i := i) (row := G[i]) (H := H) (r := remL G e a) hrow (by rw [hH, List.length_take]; omega) (by omega) G[i].length 0 [] (by omega) (Nat.le_refl _) (by rw [List.nil_append, List.drop_zero]; exact h2)
    refine Ev.suc (fun q => ?_) h3
    show burnishlaw08_reached.l0 (q + 1) _ _ _ _ _ _ _ = _
    rw [burnishlaw08_reached.l0, if_pos (by omega), if_pos (by omega), if_pos (by omega), rd1_get G i h1]
    rfl
theorem adj_cut {G : List (List Int)} {a p s : Int} (hp : isNode G p) : s ∈ adj (cutG G a) p ↔ p ≠ a ∧ s ∈ adj G p ∧ s ≠ a := by
  unfold isNode at hp
  have e : p = (p.toNat : Int) := (Int.toNat_of_nonneg hp.1).symm
  have h1 : p.toNat < G.length := by omega
  unfold adj
  rw [e, rd1_get (cutG G a) p.toNat (by rw [cut_len]; exact h1), cut_get, mem_cutR]
theorem rem_spec {G : List (List Int)} {e a : Int} (h : chk G = 0 ∧ isNode G e) : (remL G e a).length = G.length ∧ ∀ x, isNode G x → (metOf (remL G e a) x = true ↔ RA (adj G) e a x) := by
  by_cases hea : e = a
  · subst hea
    unfold remL
    rw [if_pos rfl]
    refine ⟨List.length_replicate, fun x hx => ?_⟩
    rw [metOf_false]
    simp [ra_self]
  · have hn : ∀ x, isNode (cutG G a) x ↔ isNode G x := fun x => by unfold isNode; rw [cut_len]
    have hk : chk (cutG G a) = 0 ∧ isNode (cutG G a) e := by
      refine ⟨chk_ok.2 ⟨by rw [cut_len]; exact (chk_ok.1 h.1).1, fun l hm s hs => ?_⟩, (hn e).2 h.2⟩
      obtain ⟨j, hj, rfl⟩ := List.getElem_of_mem hm
      have h1 : j < G.length := by rw [cut_len] at hj; exact hj
      rw [cut_get, mem_cutR, rd1_get G j h1] at hs
      exact (hn s).2 ((chk_ok.1 h.1).2 G[j] (List.getElem_mem h1) s hs.2.1)
    unfold remL
    rw [if_neg hea]
    refine ⟨by rw [reachL_len hk, cut_len], fun x hx => ?_⟩
    rw [reachL_get hk ((hn x).2 hx)]
    constructor
    · intro hr
      induction hr with
      | refl => exact .base hea
      | @tail b y hb hy ih =>
        have hbn := (hn b).1 (reach_node hk hb)
        obtain ⟨h1, h2, h3⟩ := (adj_cut hbn).1 hy
        exact .step (ih hbn) h2 h3
    · intro hr
      clear hx
      induction hr with
      | base => exact .refl _
      | @step p y hp hy hn2 ih => exact .tail ih ((adj_cut (reach_node h hp.reach)).2 ⟨hp.ne, hy, hn2⟩)
theorem reached_any (A : Option Addr) (c : Nat) (G : List (List Int)) (e a : Int) (w : World) (hC : Kd.C kG w A G.length G) (hc : G.length ≤ c) (hl : G.length ≤ 60) (hr : ∀ l ∈ G, l.length ≤ 200) :
    Calls Try.prog 20 #[.agg #[.slice A G.length c], .int .i64 e, .int .i64 a] w fun e' w' => ∃ v, e' = .returned v ∧ Kd.R Kd.bool 4 w' w.heap.size (fun _ => True) v (remL G e a) ∧ Below w.heap.size w w' := by
  obtain ⟨k, hk⟩ := (reached_l0 (e := e) (a := a) hl hr G.length 0 [] (by omega) (by simp)).get
  exact burnishlaw08_reached.calls k A c G e a _ w hC hc hk
end Go.Proofs.Ytbphjbfnnhfhlaa
end

section
/- DomtreeRemoval: the law's walk. -/
set_option linter.unusedVariables false
set_option linter.unusedSimpArgs false
set_option linter.unusedSectionVars false
namespace Go.Proofs.Ytbphjbfnnhfhlaa
open Go.RowKit Go.Proofs.YtbphjbfnnhfhlaaW.PrintWords Go.Proofs.Ytbphjbfnnhfhlaa.PDigraphTells Mem

set_option maxRecDepth 100000 in
set_option maxHeartbeats 4000000 in
theorem removal_walk (cs : Array Value) (G : List (List Int)) (e a : Int) (w : World) (hK : kGr.K w G cs.toList) (hg : big G) (he : (Lit.int .i64 e).wf = true) (ha : (Lit.int .i64 a).wf = true) :
    Calls Try.prog 6 #[.agg cs, .int .i64 e, .int .i64 a] w fun e w' => e = .returned (.bool true) ∧ Below w.heap.size w w' := by
  obtain ⟨A, c, rfl, hc, hC⟩ := graph_arg hK
  obtain ⟨r, hr⟩ : ∃ r, chk G = r := ⟨_, rfl⟩
  have hX := Aside0.mk (And.intro hc (And.intro hg.short hr))
  have hfl := field_succs
  have H0 := Aside0.mk (Gw.start (c := c) hC)
  clear hK hg he ha hC hc hr
  have c0 := H0.out.cell
  go_enter Try.func6, Try.ntmps6
  go_wp2_with fail
  obtain ⟨gb, hgb⟩ : ∃ gb, gb = w.heap.size := ⟨_, rfl⟩
  obtain ⟨w1, hw1⟩ : ∃ w1, w1 = w.alloc (.cells #[.slice A G.length c] 24 (0, 0)) := ⟨_, rfl⟩
  rw [← hgb, ← hw1] at H0
  rw [show Value.pointer (some (⟨w.heap.size, 0, none⟩ : Addr)) = Value.pointer (some ⟨gb, 0, none⟩) by rw [hgb], ← hw1]
  clear hgb hw1 c0
  refine (large2_any A c G _ H0.out.C hX.out.1).mono ?_
  rintro e' w2 ⟨bo, rfl, hbo, B2⟩
  have H2 := Aside0.mk (H0.out.step B2)
  have c0 := H2.out.cell
  clear B2 H0
  cases bo
  rotate_left
  · clear hbo
    go_wp2_with fail
    refine (works_any _).mono ?_
    rintro e' w9 ⟨rfl, B9⟩
    have hF := Aside0.mk (H2.out.step B9).b
    clear B9 H2 c0
    go_wp2
    go_ret
    exact ⟨rfl, hF.out⟩
  obtain ⟨hl, hrow⟩ := hbo rfl
  replace hrow := Aside0.mk hrow
  clear hbo
  go_wp2_with fail
  refine (rcheck_any A c G _ H2.out.C hX.out.1 hX.out.2.1 r hX.out.2.2).mono ?_
  rintro e' w4 ⟨rfl, B4⟩
  have H4 := Aside0.mk (H2.out.step B4)
  clear c0 B4 H2
  have c0 := H4.out.cell
  by_cases hr0 : r = 0
  rotate_left
  · have e1 : (r != 0) = true := by simp [hr0]
    have e2 : (r == 0) = false := by simp [hr0]
    clear hr0
    go_wp2_with fail
    refine (works_any _).mono ?_
    rintro e' w9 ⟨rfl, B9⟩
    have hF := Aside0.mk (H4.out.step B9).b
    clear B9 H4 c0
    go_wp2
    go_ret
    exact ⟨rfl, hF.out⟩
  subst hr0
  by_cases he0 : e < 0
  · go_wp2_with fail
    refine (works_any _).mono ?_
    rintro e' w9 ⟨rfl, B9⟩
    have hF := Aside0.mk (H4.out.step B9).b
    clear B9 H4 c0
    go_wp2
    go_ret
    exact ⟨rfl, hF.out⟩
  have he1 : 0 ≤ e := by omega
  clear he0
  by_cases he2 : (G.length : Int) ≤ e
  · go_wp2_with fail
    refine (works_any _).mono ?_
    rintro e' w9 ⟨rfl, B9⟩
    have hF := Aside0.mk (H4.out.step B9).b
    clear B9 H4 c0
    go_wp2
    go_ret
    exact ⟨rfl, hF.out⟩
  have he3 : e < (G.length : Int) := by omega
  clear he2
  have hN := Aside0.mk (show chk G = 0 ∧ isNode G e from ⟨hX.out.2.2, he1, he3⟩)
  have d1 : decide (e < 0) = false := by simpa using he1
  have d2 : decide ((G.length : Int) ≤ e) = false := by simpa using he3
  by_cases ha0 : a < 0
  · go_wp2_with fail
    refine (works_any _).mono ?_
    rintro e' w9 ⟨rfl, B9⟩
    have hF := Aside0.mk (H4.out.step B9).b
    clear B9 H4 c0
    go_wp2
    go_ret
    exact ⟨rfl, hF.out⟩
  have ha1 : 0 ≤ a := by omega
  clear ha0
  by_cases ha2 : (G.length : Int) ≤ a
  · go_wp2_with fail
    refine (works_any _).mono ?_
    rintro e' w9 ⟨rfl, B9⟩
    have hF := Aside0.mk (H4.out.step B9).b
    clear B9 H4 c0
    go_wp2
    go_ret
    exact ⟨rfl, hF.out⟩
  have ha3 : a < (G.length : Int) := by omega
  clear ha2
  have hA := Aside0.mk (show isNode G a from ⟨ha1, ha3⟩)
  have d3 : decide (a < 0) = false := by simpa using ha1
  have d4 : decide ((G.length : Int) ≤ a) = false := by simpa using ha3
  go_wp2_with fail
  clear d1 d2 d3 d4
  refine (build_any A c G e _ H4.out.C hX.out.1 hX.out.2.1 (by omega)).mono ?_
  rintro e' w5 ⟨v, l, rfl, hR, hB, B5⟩
  have hI : Idm G e l := by
    rcases hB with ⟨_, hI⟩ | ⟨hn, _⟩
    · exact hI
    · exact absurd hN.out hn
  replace hI := Aside0.mk hI
  obtain ⟨Ai, ci, ev, hci, Ci⟩ := Kd.R_reads hR
  subst ev
  have H5 := Aside0.mk (And.intro (H4.out.step B5) (And.intro hci Ci))
  clear c0 B5 H4 hR hB hci Ci
  have c0 := H5.out.1.cell
  have hlen : l.length ≤ 70 := by rw [hI.out.len]; omega
  have hll := Aside0.mk hI.out.len
  go_upto_region 4 with (fail)
  have hRG := Aside0.mk (fun (W : World) (h : Kd.C kG W A G.length G) => rreach_any A c G e W h hX.out.1 hX.out.2.1)
  have hRH := Aside0.mk (fun (W : World) (h : Kd.C kG W A G.length G) => reached_any A c G e a W h hX.out.1 hl hrow.out)
  go_region_held3 (fun w' => w'.cell? ⟨gb, 0, none⟩ = some (.slice A G.length c)) (first | assumption | go_keep) (first
    | ((go_at_call 18; with_reducible refine (hRG.out _ ?_).mono ?_)
       · first | exact H5.out.1.C | exact (Kd.C_drewN H5.out.1.C _)
       rintro e' w6 ⟨Al, cl, rfl, hcl, Cl, Bx⟩
       rw [reachL_len hN.out]
       rw [reachL_len hN.out] at hcl Cl
       have Bx : Below w5.heap.size w5 w6 := by first | exact Bx | exact (pw_below_drewN (Below.refl _ w5) _).trans Bx
       have H6 := Aside0.mk (And.intro (H5.out.1.step Bx) (And.intro (Kd.C_below H5.out.2.2 Bx) Cl))
       have f1 := H6.out.1.cell
       clear Bx hcl Cl)
    | ((go_at_call 20; with_reducible refine (hRH.out _ ?_).mono ?_)
       · first | exact H6.out.1.C | exact (Kd.C_drewN H6.out.1.C _)
       rintro e' w7 ⟨v, rfl, Rx, Bx⟩
       obtain ⟨Ar, cr, ev, hx, Cx⟩ := Kd.R_reads Rx
       rw [(rem_spec (a := a) hN.out).1] at ev hx Cx
       subst ev
       have Bx : Below w6.heap.size w6 w7 := by first | exact Bx | exact (pw_below_drewN (Below.refl _ w6) _).trans Bx
       have H7 := Aside0.mk (And.intro (H6.out.1.step Bx) (And.intro (Kd.C_below H6.out.2.1 Bx) (And.intro (Kd.C_below H6.out.2.2 Bx) Cx)))
       have f2 := H7.out.1.cell
       clear Bx hx Cx Rx))
  have H7ci := Aside0.mk H5.out.2.1
  clear f1 H6 H5 hRG hRH c0
  go_wp2_with fail
  clear f2
  have hI0 : Aside0 (Gw w w7 gb A c G ∧ Kd.C (Kd.int .i64) w7 Ai l.length l ∧ Kd.C Kd.bool w7 Al G.length (reachL G e) ∧ Kd.C Kd.bool w7 Ar G.length (remL G e a)) := ⟨H7.out⟩
  clear H7
  go_loopg [54] G.length (fun q v wi => ∃ j : Nat, j + q = G.length ∧ v = .int .i64 (j : Int) ∧ Aside0 (Gw w wi gb A c G ∧ Kd.C (Kd.int .i64) wi Ai l.length l ∧ Kd.C Kd.bool wi Al G.length (reachL G e) ∧ Kd.C Kd.bool wi Ar G.length (remL G e a)))
  case atStart => exact ⟨0, by omega, rfl, hI0⟩
  case round =>
    obtain ⟨j, hj, rfl, hJ⟩ := hrel
    clear hI0
    by_cases hlt : j < G.length
    · have hlti : (j : Int) < G.length := by omega
      obtain ⟨gk1, rfl⟩ : ∃ q, gk = q + 1 := ⟨gk - 1, by omega⟩
      have hj1 : j + 1 + gk1 = G.length := by omega
      have hgk : gk1 < gk1 + 1 := by omega
      have hj0 : (0 : Int) ≤ (j : Int) := by omega
      have hjn : isNode G (j : Int) := ⟨hj0, hlti⟩
      have hrs := rem_spec (a := a) hN.out
      obtain ⟨ad1, eA, a1⟩ := Kd.at_bool hJ.out.2.2.1 (j : Int) hj0 hlti
      subst eA
      obtain ⟨ad2, eA, a2⟩ := Kd.at_bool hJ.out.2.2.2 (j : Int) hj0 hlti
      subst eA
      rw [metOf_rd _ _ hj0, Int.toNat_natCast] at a1 a2
      have m1 := reachL_get hN.out hjn
      have m2 := hrs.2 _ hjn
      have m3 := reachL_get hN.out hA.out
      obtain ⟨b1, hb1⟩ : ∃ b, metOf (reachL G e) (j : Int) = b := ⟨_, rfl⟩
      obtain ⟨b2, hb2⟩ : ∃ b, metOf (remL G e a) (j : Int) = b := ⟨_, rfl⟩
      obtain ⟨b3, hb3⟩ : ∃ b, metOf (reachL G e) a = b := ⟨_, rfl⟩
      rw [hb1] at a1 m1
      rw [hb2] at a2 m2
      rw [hb3] at m3
      have hq := idm_dom hN.out hI.out (a := a) (b := (j : Int))
      have hcase : (b1 = false ∧ ¬ (InT l a (j : Int) ∧ On l a (j : Int))) ∨ (b1 = true ∧ ((j : Int) == a) = true ∧ b3 = true ∧ (InT l a (j : Int) ∧ On l a (j : Int))) ∨
          (b1 = true ∧ ((j : Int) == a) = false ∧ b2 = true ∧ ¬ (InT l a (j : Int) ∧ On l a (j : Int))) ∨ (b1 = true ∧ ((j : Int) == a) = false ∧ b2 = false ∧ b3 = true ∧ (InT l a (j : Int) ∧ On l a (j : Int))) := by
        rw [hq]
        cases b1 with
        | false => exact .inl ⟨rfl, fun h => by have := m1.2 h.1; cases this⟩
        | true =>
          right
          have r1 := m1.1 rfl
          by_cases e1 : (j : Int) = a
          · left
            refine ⟨rfl, by simp [e1], ?_, ?_⟩
            · rw [← hb3, ← e1, hb1]
            · rw [← e1]; exact dom_self r1
          · right
            have e2 : ((j : Int) == a) = false := by simp [e1]
            cases b2 with
            | true => exact .inl ⟨rfl, e2, rfl, fun h => h.2 (m2.1 rfl)⟩
            | false =>
              have hd : domG G e a (j : Int) := ⟨r1, fun h => by have := m2.2 h; cases this⟩
              exact .inr ⟨rfl, e2, rfl, m3.2 (dom_reach hd), hd⟩
      clear hq m1 m2 hrs hb1 hb2 hjn
      obtain ⟨ad3, eA, a3⟩ := Kd.at_bool hJ.out.2.2.1 a ha1 ha3
      clear a3
      injection eA with eA
      subst eA
      have hca := Aside0.mk (fun (W : World) (h : Kd.C Kd.bool W (some ad1) G.length (reachL G e)) => show W.cell? (ad1.add a.toNat) = some (.bool b3) by
        obtain ⟨ad3, eA, a3⟩ := Kd.at_bool h a ha1 ha3
        injection eA with eA
        subst eA
        rw [metOf_rd _ _ ha1, hb3] at a3
        exact a3)
      clear hb3 m3
      rcases hcase with ⟨rfl, hx⟩ | ⟨rfl, e1, rfl, hx⟩ | ⟨rfl, e1, rfl, hx⟩ | ⟨rfl, e1, rfl, rfl, hx⟩
      · replace hx := Aside0.mk (show _ ↔ false = true from ⟨fun h => absurd h hx, fun h => by cases h⟩)
        go_wp2_with fail
        refine (dominates_any Ai ci l a (j : Int) _ hJ.out.2.1 H7ci.out hlen).mono ?_
        rintro e' w8 ⟨r8, rfl, hr8, B8⟩
        have hI1 : Aside0 (Gw w w8 gb A c G ∧ Kd.C (Kd.int .i64) w8 Ai l.length l ∧ Kd.C Kd.bool w8 (some ad1) G.length (reachL G e) ∧ Kd.C Kd.bool w8 (some ad2) G.length (remL G e a)) := ⟨hJ.out.1.step B8, Kd.C_below hJ.out.2.1 B8, Kd.C_below hJ.out.2.2.1 B8, Kd.C_below hJ.out.2.2.2 B8⟩
        have a4 := hca.out w8 hI1.out.2.2.1
        have hr9 := Bool.eq_iff_iff.2 (hr8.trans hx.out)
        subst hr9
        clear hr8 hx hJ B8 hca a1 a2
        go_wp2_with fail
        go_roundg gk1
        case rel => exact ⟨j + 1, hj1, by go_num, hI1⟩
        case measure => exact hgk
      · replace hx := Aside0.mk hx
        go_wp2_with fail
        refine (dominates_any Ai ci l a (j : Int) _ hJ.out.2.1 H7ci.out hlen).mono ?_
        rintro e' w8 ⟨r8, rfl, hr8, B8⟩
        have hI1 : Aside0 (Gw w w8 gb A c G ∧ Kd.C (Kd.int .i64) w8 Ai l.length l ∧ Kd.C Kd.bool w8 (some ad1) G.length (reachL G e) ∧ Kd.C Kd.bool w8 (some ad2) G.length (remL G e a)) := ⟨hJ.out.1.step B8, Kd.C_below hJ.out.2.1 B8, Kd.C_below hJ.out.2.2.1 B8, Kd.C_below hJ.out.2.2.2 B8⟩
        have a4 := hca.out w8 hI1.out.2.2.1
        have hr9 := hr8.2 hx.out
        subst hr9
        clear hr8 hx hJ B8 hca a1 a2
        go_wp2_with fail
        go_roundg gk1
        case rel => exact ⟨j + 1, hj1, by go_num, hI1⟩
        case measure => exact hgk
      · replace hx := Aside0.mk (show _ ↔ false = true from ⟨fun h => absurd h hx, fun h => by cases h⟩)
        go_wp2_with fail
        refine (dominates_any Ai ci l a (j : Int) _ hJ.out.2.1 H7ci.out hlen).mono ?_
        rintro e' w8 ⟨r8, rfl, hr8, B8⟩
        have hI1 : Aside0 (Gw w w8 gb A c G ∧ Kd.C (Kd.int .i64) w8 Ai l.length l ∧ Kd.C Kd.bool w8 (some ad1) G.length (reachL G e) ∧ Kd.C Kd.bool w8 (some ad2) G.length (remL G e a)) := ⟨hJ.out.1.step B8, Kd.C_below hJ.out.2.1 B8, Kd.C_below hJ.out.2.2.1 B8, Kd.C_below hJ.out.2.2.2 B8⟩
        have a4 := hca.out w8 hI1.out.2.2.1
        have hr9 := Bool.eq_iff_iff.2 (hr8.trans hx.out)
        subst hr9
        clear hr8 hx hJ B8 hca a1 a2
        go_wp2_with fail
        go_roundg gk1
        case rel => exact ⟨j + 1, hj1, by go_num, hI1⟩
        case measure => exact hgk
      · replace hx := Aside0.mk hx
        go_wp2_with fail
        refine (dominates_any Ai ci l a (j : Int) _ hJ.out.2.1 H7ci.out hlen).mono ?_
        rintro e' w8 ⟨r8, rfl, hr8, B8⟩
        have hI1 : Aside0 (Gw w w8 gb A c G ∧ Kd.C (Kd.int .i64) w8 Ai l.length l ∧ Kd.C Kd.bool w8 (some ad1) G.length (reachL G e) ∧ Kd.C Kd.bool w8 (some ad2) G.length (remL G e a)) := ⟨hJ.out.1.step B8, Kd.C_below hJ.out.2.1 B8, Kd.C_below hJ.out.2.2.1 B8, Kd.C_below hJ.out.2.2.2 B8⟩
        have a4 := hca.out w8 hI1.out.2.2.1
        have hr9 := hr8.2 hx.out
        subst hr9
        clear hr8 hx hJ B8 hca a1 a2
        go_wp2_with fail
        go_roundg gk1
        case rel => exact ⟨j + 1, hj1, by go_num, hI1⟩
        case measure => exact hgk
    · go_wp2_with fail
      refine (works_any _).mono ?_
      rintro e' w9 ⟨rfl, B9⟩
      have hF := Aside0.mk (hJ.out.1.step B9).b
      clear B9 hJ
      go_wp2
      go_ret
      exact ⟨rfl, hF.out⟩
end Go.Proofs.Ytbphjbfnnhfhlaa
end

