import Derived.Test.YtbphjbfnnhfhlaaMCommon9
section
/- What works answers. -/
set_option linter.unusedVariables false
set_option linter.unusedSimpArgs false
set_option linter.unusedSectionVars false
namespace Go.Proofs.Ytbphjbfnnhfhlaa
open Go.RowKit Go.Proofs.YtbphjbfnnhfhlaaW.PrintWords Go.Proofs.Ytbphjbfnnhfhlaa.PDigraphTells Mem

/-- The first example's rows lie ready. -/
theorem lit_g1 (w : World) : Kd.C kG (((((w.alloc (.cells #[.int .i64 1, .int .i64 2] 3)).alloc (.cells #[.int .i64 3] 3)).alloc (.cells #[.int .i64 3] 3)).alloc (.cells #[.int .i64 1] 3)).alloc (.cells #[.slice (some ⟨w.heap.size, 0, none⟩) 2 2, .slice (some ⟨w.heap.size + 1, 0, none⟩) 1 1, .slice (some ⟨w.heap.size + 1 + 1, 0, none⟩) 1 1, .slice (some ⟨w.heap.size + 1 + 1 + 1, 0, none⟩) 1 1] 28)) (some ⟨w.heap.size + 1 + 1 + 1 + 1, 0, none⟩) 4 G1 := by
  refine lit_rows _ _ _ G1 _ (by simp) (by decide) fun j x hj => ?_
  rcases j with _ | _ | _ | _ | j
  · obtain rfl : [1, 2] = x := by simpa [G1] using hj
    exact ⟨_, _, rfl, Nat.le_refl _, Kd.C_alloc (Kd.C_alloc (Kd.C_alloc (lit_ints w _ 3 [1, 2] _ rfl rfl (by decide)) _) _) _⟩
  · obtain rfl : [3] = x := by simpa [G1] using hj
    exact ⟨_, _, rfl, Nat.le_refl _, Kd.C_alloc (Kd.C_alloc (lit_ints _ _ 3 [3] _ (by simp) rfl (by decide)) _) _⟩
  · obtain rfl : [3] = x := by simpa [G1] using hj
    exact ⟨_, _, rfl, Nat.le_refl _, Kd.C_alloc (lit_ints _ _ 3 [3] _ (by simp) rfl (by decide)) _⟩
  · obtain rfl : [1] = x := by simpa [G1] using hj
    exact ⟨_, _, rfl, Nat.le_refl _, lit_ints _ _ 3 [1] _ (by simp) rfl (by decide)⟩
  · simp [G1] at hj
theorem lit_g2 (w : World) : Kd.C kG (((w.alloc (.cells #[.int .i64 1] 3)).alloc (.cells #[.int .i64 2] 3)).alloc (.cells #[.slice (some ⟨w.heap.size, 0, none⟩) 1 1, .slice (some ⟨w.heap.size + 1, 0, none⟩) 1 1, .slice none 0 0] 28)) (some ⟨w.heap.size + 1 + 1, 0, none⟩) 3 G2 := by
  refine lit_rows _ _ _ G2 _ (by simp) (by decide) fun j x hj => ?_
  rcases j with _ | _ | _ | j
  · obtain rfl : [1] = x := by simpa [G2] using hj
    exact ⟨_, _, rfl, Nat.le_refl _, Kd.C_alloc (lit_ints w _ 3 [1] _ rfl rfl (by decide)) _⟩
  · obtain rfl : [2] = x := by simpa [G2] using hj
    exact ⟨_, _, rfl, Nat.le_refl _, lit_ints _ _ 3 [2] _ (by simp) rfl (by decide)⟩
  · obtain rfl : [] = x := by simpa [G2] using hj
    exact ⟨none, 0, rfl, Nat.le_refl _, Kd.C_nil _ _⟩
  · simp [G2] at hj

/-- slices.Equal against a row of four numbers written just now. -/
theorem eq_lit (A : Option Addr) (c : Nat) (x : List Int) (cs : Array Value) (w : World) (g : Nat) (hg : w.heap.size = g) (hA : Kd.C (Kd.int .i64) w A 4 x) (hc : 4 ≤ c) (hcs : cs.toList = x.map (Value.int .i64)) (hn : x.length = 4) :
    Calls Try.prog 11 #[.slice A 4 c, .slice (some ⟨g, 0, none⟩) 4 4] (w.alloc (.cells cs 3 (0, 0))) fun e w' => e = .returned (.bool true) ∧ Below w.heap.size w w' := by
  have h := eqi_any c 4 A (some ⟨g, 0, none⟩) x x (w.alloc (.cells cs 3 (0, 0))) (by rw [hn]; exact Kd.C_alloc hA _) (lit_ints w cs 3 x g hg hcs (by omega)) (by omega) (by omega) (by omega) true (by simp)
  rw [hn] at h
  refine h.mono ?_
  rintro e w' ⟨rfl, B⟩
  exact ⟨rfl, (below_alloc (Below.refl _ w) _).trans (B.mono (by simp))⟩

set_option maxRecDepth 100000 in
set_option maxHeartbeats 4000000 in
theorem works_any (w : World) : Calls Try.prog 10 #[] w fun e w' => e = .returned (.bool true) ∧ Below w.heap.size w w' := by
  go_enter Try.func10, Try.ntmps10
  go_wp2_with fail
  refine (build_any _ 4 G1 0 _ (lit_g1 w) (by decide) ⟨by decide, by decide⟩ (by decide)).mono ?_
  rintro e' w1 ⟨v, l, rfl, hR, hB, B1⟩
  obtain rfl := bld1 hB
  obtain ⟨A1, c1, ev, hc1, C1⟩ := Kd.R_reads hR
  subst ev
  have H1 := Aside0.mk (show Below w.heap.size w w1 ∧ 4 ≤ c1 ∧ Kd.C (Kd.int .i64) w1 A1 4 [0, 0, 0, 0] from ⟨(below_alloc (below_alloc (below_alloc (below_alloc (below_alloc (Below.refl _ w) _) _) _) _) _).trans (B1.mono (by simp; omega)), hc1, C1⟩)
  clear hR hB B1 hc1 C1
  go_wp2_with fail
  refine (postdom_any _ 3 G2 _ (lit_g2 w1) (by decide) ⟨by decide, by decide⟩ (by decide)).mono ?_
  rintro e' w2 ⟨v, l, rfl, hR, hB, B2⟩
  obtain rfl : l = [1, 2, 3, 3] := by
    rcases hB with ⟨_, hB⟩ | ⟨hn, _⟩
    · exact bld2 hB
    · exact absurd g2_ok hn
  obtain ⟨A2, c2, ev, hc2, C2⟩ := Kd.R_reads hR
  subst ev
  have b2 : Below w1.heap.size w1 w2 := (below_alloc (below_alloc (below_alloc (Below.refl _ w1) _) _) _).trans (B2.mono (by simp; omega))
  have H2 := Aside0.mk (show (Below w.heap.size w w2 ∧ 4 ≤ c1 ∧ Kd.C (Kd.int .i64) w2 A1 4 [0, 0, 0, 0]) ∧ 4 ≤ c2 ∧ Kd.C (Kd.int .i64) w2 A2 4 [1, 2, 3, 3] from ⟨⟨H1.out.1.trans (b2.mono H1.out.1.size), H1.out.2.1, Kd.C_below H1.out.2.2 b2⟩, hc2, C2⟩)
  clear hR hB B2 hc2 C2 b2 H1
  go_wp2_with fail
  refine (eq_lit A1 c1 [0, 0, 0, 0] _ w2 _ rfl H2.out.1.2.2 H2.out.1.2.1 rfl rfl).mono ?_
  rintro e' w3 ⟨rfl, B3⟩
  have H3 := Aside0.mk (show (Below w.heap.size w w3 ∧ 4 ≤ c1 ∧ Kd.C (Kd.int .i64) w3 A1 4 [0, 0, 0, 0]) ∧ 4 ≤ c2 ∧ Kd.C (Kd.int .i64) w3 A2 4 [1, 2, 3, 3] from ⟨⟨H2.out.1.1.trans (B3.mono H2.out.1.1.size), H2.out.1.2.1, Kd.C_below H2.out.1.2.2 B3⟩, H2.out.2.1, Kd.C_below H2.out.2.2 B3⟩)
  clear B3 H2
  go_wp2_with fail
  refine (common_dom_any A1 c1 [0, 0, 0, 0] 1 2 _ H3.out.1.2.2 H3.out.1.2.1 (by decide)).mono ?_
  rintro e' w4 ⟨r, rfl, hr, B4⟩
  obtain rfl : r = 0 := by
    rcases hr with ⟨_, h⟩ | ⟨h, _⟩
    · exact low1 h
    · exact absurd int1 h
  have H4 := Aside0.mk (show (Below w.heap.size w w4 ∧ 4 ≤ c1 ∧ Kd.C (Kd.int .i64) w4 A1 4 [0, 0, 0, 0]) ∧ 4 ≤ c2 ∧ Kd.C (Kd.int .i64) w4 A2 4 [1, 2, 3, 3] from ⟨⟨H3.out.1.1.trans (B4.mono H3.out.1.1.size), H3.out.1.2.1, Kd.C_below H3.out.1.2.2 B4⟩, H3.out.2.1, Kd.C_below H3.out.2.2 B4⟩)
  clear hr B4 H3
  go_wp2_with fail
  refine (preorder_any A1 c1 [0, 0, 0, 0] _ H4.out.1.2.2 H4.out.1.2.1 (by decide)).mono ?_
  rintro e' w5 ⟨v, o, rfl, hR, ho, B5⟩
  obtain rfl : o = [0, 1, 2, 3] := by
    rcases ho with ⟨_, h⟩ | ⟨h, _⟩
    · rw [h]; exact pre1
    · exact absurd tree1 h
  obtain ⟨A3, c3, ev, hc3, C3⟩ := Kd.R_reads hR
  subst ev
  have H5 := Aside0.mk (show (Below w.heap.size w w5 ∧ 4 ≤ c2 ∧ Kd.C (Kd.int .i64) w5 A2 4 [1, 2, 3, 3]) ∧ 4 ≤ c3 ∧ Kd.C (Kd.int .i64) w5 A3 4 [0, 1, 2, 3] from ⟨⟨H4.out.1.1.trans (B5.mono H4.out.1.1.size), H4.out.2.1, Kd.C_below H4.out.2.2 B5⟩, hc3, C3⟩)
  clear hR ho B5 H4 hc3 C3
  go_wp2_with fail
  refine (eq_lit A3 c3 [0, 1, 2, 3] _ w5 _ rfl H5.out.2.2 H5.out.2.1 rfl rfl).mono ?_
  rintro e' w6 ⟨rfl, B6⟩
  have H6 := Aside0.mk (show Below w.heap.size w w6 ∧ 4 ≤ c2 ∧ Kd.C (Kd.int .i64) w6 A2 4 [1, 2, 3, 3] from ⟨H5.out.1.1.trans (B6.mono H5.out.1.1.size), H5.out.1.2.1, Kd.C_below H5.out.1.2.2 B6⟩)
  clear B6 H5
  go_wp2_with fail
  refine (eq_lit A2 c2 [1, 2, 3, 3] _ w6 _ rfl H6.out.2.2 H6.out.2.1 rfl rfl).mono ?_
  rintro e' w7 ⟨rfl, B7⟩
  have H7 := Aside0.mk (H6.out.1.trans (B7.mono H6.out.1.size))
  clear B7 H6
  go_wp2
  go_ret
  exact ⟨rfl, H7.out⟩
end Go.Proofs.Ytbphjbfnnhfhlaa
end

section
/- large; what the laws' walks share. -/
set_option linter.unusedVariables false
set_option linter.unusedSimpArgs false
set_option linter.unusedSectionVars false
namespace Go.Proofs.Ytbphjbfnnhfhlaa
open Go.RowKit Go.Proofs.YtbphjbfnnhfhlaaW.PrintWords Go.Proofs.Ytbphjbfnnhfhlaa.PDigraphTells Mem

theorem large_l0 (G : List (List Int)) (hl : G.length ≤ 60) : ∀ (d i k s : Nat), i + d = G.length → d < k → s ≤ 200 * i → ∃ b, burnishlaw08_large.l0 k (s : Int) G (G.length : Int) (i : Int) = some b := by
  intro d
  induction d with
  | zero =>
    intro i k s hi hk hs
    obtain ⟨k, rfl⟩ : ∃ m, k = m + 1 := ⟨k - 1, by omega⟩
    simp only [burnishlaw08_large.l0]
    rw [if_neg (by omega)]
    exact ⟨_, rfl⟩
  | succ d ih =>
    intro i k s hi hk hs
    obtain ⟨k, rfl⟩ : ∃ m, k = m + 1 := ⟨k - 1, by omega⟩
    simp only [burnishlaw08_large.l0]
    rw [if_pos (by omega), if_pos (by omega), if_pos (by omega)]
    by_cases h : ((rd_L1 G (i : Int)).length : Int) > 200
    · rw [if_pos h]; exact ⟨_, rfl⟩
    · rw [if_neg h]
      have e1 : wrap64 ((s : Int) + ((rd_L1 G (i : Int)).length : Int)) = ((s + (rd_L1 G (i : Int)).length : Nat) : Int) := by unfold wrap64; omega
      have e2 : wrap64 ((i : Int) + 1) = ((i + 1 : Nat) : Int) := by unfold wrap64; omega
      rw [e1, e2]
      exact ih (i + 1) k _ (by omega) (by omega) (by omega)
theorem large_any (A : Option Addr) (c : Nat) (G : List (List Int)) (w : World) (hC : Kd.C kG w A G.length G) (hc : G.length ≤ c) :
    Calls Try.prog 9 #[.agg #[.slice A G.length c]] w fun e w' => ∃ b, e = .returned (.bool b) ∧ (b = false → G.length ≤ 60) ∧ Below w.heap.size w w' := by
  by_cases h : (G.length : Int) > 60
  · refine (burnishlaw08_large.calls 0 A c G true w hC hc (by unfold burnishlaw08_large.f; rw [if_pos h])).mono ?_
    rintro e w' ⟨rfl, hb⟩
    exact ⟨true, rfl, fun h => (by cases h), by first | exact hb | (obtain ⟨n, rfl⟩ := hb.out; exact pw_below_drewN (Below.refl _ _) _)⟩
  · obtain ⟨b, hb⟩ := large_l0 G (by omega) G.length 0 (G.length + 1) 0 (by omega) (by omega) (by omega)
    refine (burnishlaw08_large.calls (G.length + 1) A c G b w hC hc (by unfold burnishlaw08_large.f; rw [if_neg h]; exact hb)).mono ?_
    rintro e w' ⟨rfl, hb⟩
    exact ⟨b, rfl, fun _ => by omega, by first | exact hb | (obtain ⟨n, rfl⟩ := hb.out; exact pw_below_drewN (Below.refl _ _) _)⟩
end Go.Proofs.Ytbphjbfnnhfhlaa
end

section
/- The list of immediate dominators is a dominator tree: On is dominance. -/
set_option linter.unusedVariables false
set_option linter.unusedSimpArgs false
set_option linter.unusedSectionVars false
namespace Go.Proofs.Ytbphjbfnnhfhlaa
open Go.RowKit Go.Proofs.YtbphjbfnnhfhlaaW.PrintWords Go.Proofs.Ytbphjbfnnhfhlaa.PDigraphTells Mem

theorem dom_anti {G : List (List Int)} {e u v : Int} (h1 : domG G e u v) (h2 : domG G e v u) : u = v := by
  by_cases h9 : u = v
  · exact h9
  · exfalso
    have key : ∀ y, Grf.Reach (adj G) e y → (RA (adj G) e v u ∨ RA (adj G) e u v) ∨ (RA (adj G) e u y ∧ RA (adj G) e v y) := by
      intro y hy
      induction hy with
      | refl =>
        by_cases e1 : e = u
        · subst e1; exact .inl (.inl (.base h9))
        · by_cases e2 : e = v
          · subst e2; exact .inl (.inr (.base e1))
          · exact .inr ⟨.base e1, .base e2⟩
      | @tail b y hb hy ih =>
        rcases ih with ih | ⟨ia, ib⟩
        · exact .inl ih
        · by_cases e1 : y = u
          · subst e1; exact .inl (.inl (.step ib hy h9))
          · by_cases e2 : y = v
            · subst e2; exact .inl (.inr (.step ia hy e1))
            · exact .inr ⟨.step ia hy e1, .step ib hy e2⟩
    rcases key v h1.1 with (h | h) | ⟨_, h⟩
    · exact h2.2 h
    · exact h1.2 h
    · exact h.ne rfl
theorem dom_trans {G : List (List Int)} {e d p x : Int} (h1 : domG G e d p) (h2 : domG G e p x) : domG G e d x := by
  refine ⟨h2.1, fun hr => ?_⟩
  have key : ∀ y, RA (adj G) e d y → RA (adj G) e p y ∨ RA (adj G) e d p := by
    intro y hy
    induction hy with
    | base h3 =>
      by_cases e1 : e = p
      · subst e1; exact .inr (.base h3)
      · exact .inl (.base e1)
    | @step b y hb hy hn ih =>
      rcases ih with ih | ih
      · by_cases e1 : y = p
        · subst e1; exact .inr (.step hb hy hn)
        · exact .inl (.step ih hy e1)
      · exact .inr ih
  rcases key x hr with h | h
  · exact h2.2 h
  · exact h1.2 h
theorem dom_reach {G : List (List Int)} {e p x : Int} (h : domG G e p x) : Grf.Reach (adj G) e p := by
  by_cases h9 : Grf.Reach (adj G) e p
  · exact h9
  · exfalso
    apply h.2
    have key : ∀ y, Grf.Reach (adj G) e y → RA (adj G) e p y := by
      intro y hy
      induction hy with
      | refl => exact .base (fun e1 => h9 (by rw [← e1]; exact .refl _))
      | @tail b y hb hy ih => exact .step ih hy (fun e1 => h9 (by rw [← e1]; exact hb.tail hy))
    exact key x h.1
theorem dom_self {G : List (List Int)} {e x : Int} (h : Grf.Reach (adj G) e x) : domG G e x x := ⟨h, fun h => h.ne rfl⟩
theorem dom_root {G : List (List Int)} {e d : Int} (h : domG G e d e) : d = e := by
  by_cases h1 : d = e
  · exact h1
  · exact absurd (.base (Ne.symm h1)) h.2
section
variable {G : List (List Int)} {e : Int} {l : List Int} (h : chk G = 0 ∧ isNode G e) (hI : Idm G e l)
include h hI
theorem idm_idx {x : Int} : idx l x ↔ isNode G x := by unfold idx isNode; rw [hI.len]
theorem idm_par {x : Int} (hx : Grf.Reach (adj G) e x) : Grf.Reach (adj G) e (rd l x) := by
  by_cases e1 : x = e
  · rw [e1, hI.root]; exact .refl _
  · exact dom_reach (hI.up x hx e1).1
theorem idm_in {x : Int} (hx : isNode G x) : rd l x ≠ -1 ↔ Grf.Reach (adj G) e x := by
  constructor
  · intro h1
    by_cases h2 : Grf.Reach (adj G) e x
    · exact h2
    · exact absurd (hI.out x hx h2) h1
  · intro h1 h2
    have h3 := (reach_node h (idm_par h hI h1)).1
    omega
theorem idm_self {x : Int} (hx : Grf.Reach (adj G) e x) (h1 : rd l x = x) : x = e := by
  by_cases e1 : x = e
  · exact e1
  · exact absurd h1 (hI.up x hx e1).2.1
theorem idm_up : ∀ (n : Nat) (x : Int), Grf.Reach (adj G) e x → (∀ (L : List Int), L.Nodup → (∀ v ∈ L, domG G e v x) → L.length ≤ n) → ∃ k, Up l x k := by
  intro n
  induction n with
  | zero =>
    intro x hx hL
    have := hL [x] (by simp) (fun v hv => by rw [List.mem_singleton.1 hv]; exact dom_self hx)
    simp at this
  | succ n ih =>
    intro x hx hL
    have hxi := (idm_idx h hI).2 (reach_node h hx)
    by_cases e1 : x = e
    · exact ⟨0, .root hxi (by rw [e1]; exact hI.root)⟩
    · obtain ⟨a1, a2, a3⟩ := hI.up x hx e1
      obtain ⟨k, hk⟩ := ih (rd l x) (dom_reach a1) (fun L hn hv => by
        have hx2 : x ∉ L := fun hm => a2 (dom_anti a1 (hv x hm))
        have := hL (x :: L) (List.nodup_cons.2 ⟨hx2, hn⟩) (fun v hv2 => by
          rcases List.mem_cons.1 hv2 with rfl | h3
          · exact dom_self hx
          · exact dom_trans (hv v h3) a1)
        rw [List.length_cons] at this
        omega)
      exact ⟨k + 1, .step hxi a2 hk⟩
theorem idm_up' {x : Int} (hx : Grf.Reach (adj G) e x) : ∃ k, Up l x k := by
  refine idm_up h hI (nodes G).length x hx (fun L hn hv => ?_)
  exact nodup_len L (nodes G) hn (fun v hm => (mem_nodes G v).2 (reach_node h (dom_reach (hv v hm))))
theorem idm_on {x : Int} (hx : Grf.Reach (adj G) e x) (d : Int) : On l d x ↔ domG G e d x := by
  constructor
  · intro ho
    induction ho with
    | refl => exact dom_self hx
    | @step y hi e1 u ih =>
      have hp := ih (idm_par h hI hx)
      by_cases e2 : y = e
      · exact absurd (by rw [e2]; exact hI.root) e1
      · exact dom_trans hp (hI.up y hx e2).1
  · intro hd
    obtain ⟨k, hk⟩ := idm_up' h hI hx
    induction hk with
    | @root y hi e1 =>
      have := idm_self h hI hx e1
      subst this
      rw [dom_root hd]
      exact .refl
    | @step y k hi e1 u ih =>
      by_cases e2 : d = y
      · subst e2; exact .refl
      · have e3 : y ≠ e := fun e3 => e1 (by rw [e3]; exact hI.root)
        exact .step hi e1 (ih (idm_par h hI hx) ((hI.up y hx e3).2.2 d hd e2))
theorem idm_roots : ∀ n : Nat, n ≤ l.length → roots l n = if e < (n : Int) then 1 else 0 := by
  have he := h.2
  unfold isNode at he
  intro n
  induction n with
  | zero => intro _; rw [if_neg (by omega)]; rfl
  | succ n ih =>
    intro hn
    rw [roots_succ, ih (by omega)]
    have hnode : isNode G (n : Int) := by unfold isNode; rw [← hI.len]; omega
    by_cases e1 : e = (n : Int)
    · have hr : rd l (n : Int) = (n : Int) := by rw [← e1]; exact hI.root
      rw [if_pos hr, if_neg (by omega), if_pos (by omega)]
    · have hr : ¬ rd l (n : Int) = (n : Int) := by
        intro hr
        have h1 : rd l (n : Int) ≠ -1 := by omega
        exact e1 (idm_self h hI ((idm_in h hI hnode).1 h1) hr).symm
      rw [if_neg hr]
      by_cases e2 : e < (n : Int)
      · rw [if_pos e2, if_pos (by omega)]
      · rw [if_neg e2, if_neg (by omega)]
theorem idm_tree : Tree l := by
  refine ⟨fun x hx => ?_, fun x hx h1 => ?_, ?_⟩
  · have hn := (idm_idx h hI).1 hx
    by_cases h1 : rd l x = -1
    · exact ⟨by omega, by rw [h1]; have := hx.1; have := hx.2; omega⟩
    · have h2 := reach_node h (idm_par h hI ((idm_in h hI hn).1 h1))
      unfold isNode at h2
      exact ⟨by omega, by rw [hI.len]; exact h2.2⟩
  · exact idm_up' h hI ((idm_in h hI ((idm_idx h hI).1 hx)).1 h1)
  · rw [idm_roots h hI l.length (Nat.le_refl _), if_pos (by rw [hI.len]; exact h.2.2)]
theorem idm_inT {a b : Int} : InT l a b ↔ Grf.Reach (adj G) e a ∧ Grf.Reach (adj G) e b := by
  constructor
  · rintro ⟨_, h1, h2, h3, h4⟩
    exact ⟨(idm_in h hI ((idm_idx h hI).1 h1)).1 h3, (idm_in h hI ((idm_idx h hI).1 h2)).1 h4⟩
  · rintro ⟨h1, h2⟩
    have n1 := reach_node h h1
    have n2 := reach_node h h2
    exact ⟨idm_tree h hI, (idm_idx h hI).2 n1, (idm_idx h hI).2 n2, (idm_in h hI n1).2 h1, (idm_in h hI n2).2 h2⟩
/-- Dominates on Build's list. -/
theorem idm_dom {a b : Int} : (InT l a b ∧ On l a b) ↔ domG G e a b := by
  rw [idm_inT h hI]
  constructor
  · rintro ⟨⟨_, h1⟩, h2⟩; exact (idm_on h hI h1 a).1 h2
  · intro h1; exact ⟨⟨dom_reach h1, h1.1⟩, (idm_on h hI h1.1 a).2 h1⟩
end
end Go.Proofs.Ytbphjbfnnhfhlaa
end

section
/- DomtreeCommon: the law's walk. -/
set_option linter.unusedVariables false
set_option linter.unusedSimpArgs false
set_option linter.unusedSectionVars false
namespace Go.Proofs.Ytbphjbfnnhfhlaa
open Go.RowKit Go.Proofs.YtbphjbfnnhfhlaaW.PrintWords Go.Proofs.Ytbphjbfnnhfhlaa.PDigraphTells Mem

set_option maxRecDepth 100000 in
set_option maxHeartbeats 4000000 in
theorem common_walk (cs : Array Value) (G : List (List Int)) (e a b : Int) (w : World) (hK : kGr.K w G cs.toList) (hg : big G) (he : (Lit.int .i64 e).wf = true) (ha : (Lit.int .u8 a).wf = true) (hb : (Lit.int .u8 b).wf = true) :
    Calls Try.prog 7 #[.agg cs, .int .i64 e, .int .u8 a, .int .u8 b] w fun e w' => e = .returned (.bool true) ∧ Below w.heap.size w w' := by
  obtain ⟨A, c, rfl, hc, hC⟩ := graph_arg hK
  obtain ⟨r, hr⟩ : ∃ r, chk G = r := ⟨_, rfl⟩
  have hX := Aside0.mk (And.intro hc (And.intro hg.short hr))
  have ha1 : 0 ≤ a ∧ a < 256 := by simp [Lit.wf, IntKind.min, IntKind.max, IntKind.signed, IntKind.bits] at ha; omega
  have hb1 : 0 ≤ b ∧ b < 256 := by simp [Lit.wf, IntKind.min, IntKind.max, IntKind.signed, IntKind.bits] at hb; omega
  have hfl := field_succs
  have H0 := Aside0.mk (Gw.start (c := c) hC)
  clear hK hg he ha hb hC hc hr
  have c0 := H0.out.cell
  go_enter Try.func7, Try.ntmps7
  go_wp2_with fail
  obtain ⟨gb, hgb⟩ : ∃ gb, gb = w.heap.size := ⟨_, rfl⟩
  obtain ⟨w1, hw1⟩ : ∃ w1, w1 = w.alloc (.cells #[.slice A G.length c] 24 (0, 0)) := ⟨_, rfl⟩
  rw [← hgb, ← hw1] at H0
  rw [show Value.pointer (some (⟨w.heap.size, 0, none⟩ : Addr)) = Value.pointer (some ⟨gb, 0, none⟩) by rw [hgb], ← hw1]
  clear hgb hw1 c0
  refine (large_any A c G _ H0.out.C hX.out.1).mono ?_
  rintro e' w2 ⟨bo, rfl, hbo, B2⟩
  have H2 := Aside0.mk (H0.out.step B2)
  have c0 := H2.out.cell
  clear B2 H0
  cases bo
  rotate_left
  · clear hbo
    go_wp2_with fail
    refine (works_any _).mono ?_
    rintro e' w9 ⟨rfl, B9⟩
    have hF := Aside0.mk (H2.out.step B9).b
    clear B9 H2 c0
    go_wp2
    go_ret
    exact ⟨rfl, hF.out⟩
  have hl := hbo rfl
  clear hbo
  go_wp2_with fail
  refine (rcheck_any A c G _ H2.out.C hX.out.1 hX.out.2.1 r hX.out.2.2).mono ?_
  rintro e' w4 ⟨rfl, B4⟩
  have H4 := Aside0.mk (H2.out.step B4)
  clear c0 B4 H2
  have c0 := H4.out.cell
  by_cases hr0 : r = 0
  rotate_left
  · have e1 : (r != 0) = true := by simp [hr0]
    have e2 : (r == 0) = false := by simp [hr0]
    clear hr0
    go_wp2_with fail
    refine (works_any _).mono ?_
    rintro e' w9 ⟨rfl, B9⟩
    have hF := Aside0.mk (H4.out.step B9).b
    clear B9 H4 c0
    go_wp2
    go_ret
    exact ⟨rfl, hF.out⟩
  subst hr0
  by_cases he0 : e < 0
  · go_wp2_with fail
    refine (works_any _).mono ?_
    rintro e' w9 ⟨rfl, B9⟩
    have hF := Aside0.mk (H4.out.step B9).b
    clear B9 H4 c0
    go_wp2
    go_ret
    exact ⟨rfl, hF.out⟩
  have he1 : 0 ≤ e := by omega
  clear he0
  by_cases he2 : (G.length : Int) ≤ e
  · go_wp2_with fail
    refine (works_any _).mono ?_
    rintro e' w9 ⟨rfl, B9⟩
    have hF := Aside0.mk (H4.out.step B9).b
    clear B9 H4 c0
    go_wp2
    go_ret
    exact ⟨rfl, hF.out⟩
  have he3 : e < (G.length : Int) := by omega
  clear he2
  have hN := Aside0.mk (show chk G = 0 ∧ isNode G e from ⟨hX.out.2.2, he1, he3⟩)
  have d1 : decide (e < 0) = false := by simpa using he1
  have d2 : decide ((G.length : Int) ≤ e) = false := by simpa using he3
  go_wp2_with fail
  clear d1 d2
  have hlz : (G.length : Int) ≠ 0 := by omega
  go_quiet (fail)
  obtain ⟨x, hx⟩ : ∃ x, a % (G.length : Int) = x := ⟨_, rfl⟩
  obtain ⟨y, hy⟩ : ∃ y, b % (G.length : Int) = y := ⟨_, rfl⟩
  have hx1 : 0 ≤ x := by rw [← hx]; exact Int.emod_nonneg _ hlz
  have hx2 : x < (G.length : Int) := by rw [← hx]; exact Int.emod_lt_of_pos _ (by omega)
  have hy1 : 0 ≤ y := by rw [← hy]; exact Int.emod_nonneg _ hlz
  have hy2 : y < (G.length : Int) := by rw [← hy]; exact Int.emod_lt_of_pos _ (by omega)
  rw [hx, hy]
  obtain ⟨w5, hw5⟩ : ∃ w5, w5 = w4.drewN nq := ⟨_, rfl⟩
  have H5 := Aside0.mk (show Gw w w5 gb A c G by rw [hw5]; exact H4.out.drewN nq)
  rw [← hw5]
  clear hx hy hw5 c0 H4 ha1 hb1 hlz
  have c0 := H5.out.cell
  go_wp2_with fail
  refine (rreach_any A c G e _ H5.out.C hX.out.1 hX.out.2.1).mono ?_
  rintro e' w6 ⟨Al, cl, rfl, hcl, Cl, B6⟩
  rw [reachL_len hN.out]
  rw [reachL_len hN.out] at hcl Cl
  have H6 := Aside0.mk (And.intro (H5.out.step B6) (And.intro hcl Cl))
  clear c0 B6 H5 hcl Cl
  have c0 := H6.out.1.cell
  go_wp2_with fail
  refine (build_any A c G e _ H6.out.1.C hX.out.1 hX.out.2.1 (by omega)).mono ?_
  rintro e' w7 ⟨v, l, rfl, hR, hB, B7⟩
  have hI : Idm G e l := by
    rcases hB with ⟨_, hI⟩ | ⟨hn, _⟩
    · exact hI
    · exact absurd hN.out hn
  obtain ⟨Ai, ci, ev, hci, Ci⟩ := Kd.R_reads hR
  subst ev
  have H7 := Aside0.mk (And.intro (H6.out.1.step B7) (And.intro H6.out.2.1 (And.intro (Kd.C_below H6.out.2.2 B7) (And.intro hci Ci))))
  replace hI := Aside0.mk hI
  clear c0 B7 H6 hR hB hci Ci
  have hlen : l.length ≤ 70 := by rw [hI.out.len]; omega
  go_wp2_with fail
  refine (common_dom_any Ai ci l x y _ H7.out.2.2.2.2 H7.out.2.2.2.1 hlen).mono ?_
  rintro e' w8 ⟨r, rfl, hr, B8⟩
  replace hr := Aside0.mk hr
  have H8 := Aside0.mk (And.intro (H7.out.1.step B8) (And.intro (Kd.C_below H7.out.2.2.1 B8) (And.intro H7.out.2.2.2.1 (Kd.C_below H7.out.2.2.2.2 B8))))
  clear B8 H7
  obtain ⟨ad, eA, q1⟩ := Kd.at_bool H8.out.2.1 x hx1 hx2
  subst eA
  obtain ⟨ad2, eA, q2⟩ := Kd.at_bool H8.out.2.1 y hy1 hy2
  injection eA with eA
  subst eA
  rw [metOf_rd _ _ hx1] at q1
  rw [metOf_rd _ _ hy1] at q2
  have m1 := reachL_get hN.out (x := x) ⟨hx1, hx2⟩
  have m2 := reachL_get hN.out (x := y) ⟨hy1, hy2⟩
  obtain ⟨bx, hbx⟩ : ∃ bx, metOf (reachL G e) x = bx := ⟨_, rfl⟩
  obtain ⟨yb, hyb⟩ : ∃ yb, metOf (reachL G e) y = yb := ⟨_, rfl⟩
  rw [hbx] at m1 q1
  rw [hyb] at m2 q2
  have hM := Aside0.mk (And.intro m1 m2)
  clear m1 m2 hbx hyb
  cases bx
  · obtain rfl : r = -1 := by
      rcases hr.out with ⟨h1, _⟩ | ⟨_, h1⟩
      · exact absurd (hM.out.1.2 ((idm_inT hN.out hI.out).1 h1).1) (by simp)
      · exact h1
    clear hr hM
    go_wp2_with fail
    refine (works_any _).mono ?_
    rintro e' w9 ⟨rfl, B9⟩
    have hF := Aside0.mk (H8.out.1.step B9).b
    clear B9 H8 q1 q2
    go_wp2
    go_ret
    exact ⟨rfl, hF.out⟩
  cases yb
  · obtain rfl : r = -1 := by
      rcases hr.out with ⟨h1, _⟩ | ⟨_, h1⟩
      · exact absurd (hM.out.2.2 ((idm_inT hN.out hI.out).1 h1).2) (by simp)
      · exact h1
    clear hr hM
    go_wp2_with fail
    refine (works_any _).mono ?_
    rintro e' w9 ⟨rfl, B9⟩
    have hF := Aside0.mk (H8.out.1.step B9).b
    clear B9 H8 q1 q2
    go_wp2
    go_ret
    exact ⟨rfl, hF.out⟩
  have hL : Low l x y r := by
    rcases hr.out with ⟨_, h1⟩ | ⟨h1, _⟩
    · exact h1
    · exact absurd ((idm_inT hN.out hI.out).2 ⟨hM.out.1.1 rfl, hM.out.2.1 rfl⟩) h1
  replace hL := Aside0.mk hL
  have hxr := Aside0.mk (hM.out.1.1 rfl)
  have hyr := Aside0.mk (hM.out.2.1 rfl)
  clear hr hM
  go_wp2_with fail
  refine (dominates_any Ai ci l r x _ H8.out.2.2.2 H8.out.2.2.1 hlen).mono ?_
  rintro e' w9 ⟨b1, rfl, hb1, B9⟩
  have h1 := (idm_on hN.out hI.out hxr.out r).1 hL.out.1
  obtain rfl : b1 = true := hb1.2 ((idm_dom hN.out hI.out).2 h1)
  have H9 := Aside0.mk (And.intro (H8.out.1.step B9) (And.intro H8.out.2.2.1 (Kd.C_below H8.out.2.2.2 B9)))
  clear B9 H8 q1 q2 hb1
  go_wp2_with fail
  refine (dominates_any Ai ci l r y _ H9.out.2.2 H9.out.2.1 hlen).mono ?_
  rintro e' w10 ⟨b1, rfl, hb1, B9⟩
  have h2 := (idm_on hN.out hI.out hyr.out r).1 hL.out.2.1
  obtain rfl : b1 = true := hb1.2 ((idm_dom hN.out hI.out).2 h2)
  have H10 := Aside0.mk (And.intro (H9.out.1.step B9) (And.intro H9.out.2.1 (Kd.C_below H9.out.2.2 B9)))
  clear B9 H9 hb1
  have hrr := Aside0.mk (dom_reach h1)
  clear h1 h2
  go_wp2_with fail
  go_loopg [87] G.length (fun q v wi => ∃ i : Nat, i + q = G.length ∧ v = .int .i64 (i : Int) ∧ Aside0 (Below w.heap.size w wi ∧ ci = ci ∧ Kd.C (Kd.int .i64) wi Ai l.length l))
  case atStart => exact ⟨0, by omega, rfl, ⟨H10.out.1.b, rfl, H10.out.2.2⟩⟩
  case round =>
    obtain ⟨i, hi, rfl, hJ⟩ := hrel
    by_cases hlt : i < G.length
    · have hlti : (i : Int) < G.length := by omega
      obtain ⟨gk1, rfl⟩ : ∃ q, gk = q + 1 := ⟨gk - 1, by omega⟩
      have hi1 : i + 1 + gk1 = G.length := by omega
      have hgk1 : gk1 < gk1 + 1 := by omega
      go_wp2_with fail
      refine (dominates_any Ai ci l (i : Int) x _ hJ.out.2.2 H10.out.2.1 hlen).mono ?_
      rintro e' w11 ⟨b1, rfl, hb1, B11⟩
      have J1 := Aside0.mk (And.intro (hJ.out.1.trans (B11.mono hJ.out.1.size)) (Kd.C_below hJ.out.2.2 B11))
      replace hb1 := Aside0.mk hb1
      clear B11 hJ
      cases b1
      · clear hb1
        have hI2 : Aside0 (Below w.heap.size w w11 ∧ ci = ci ∧ Kd.C (Kd.int .i64) w11 Ai l.length l) := ⟨J1.out.1, rfl, J1.out.2⟩
        clear J1
        go_wp2_with fail
        go_roundg gk1
        case rel => exact ⟨i + 1, hi1, by go_num, hI2⟩
        case measure => exact hgk1
      have ho1 := Aside0.mk (hb1.out.1 rfl).2
      clear hb1
      go_wp2_with fail
      refine (dominates_any Ai ci l (i : Int) y _ J1.out.2 H10.out.2.1 hlen).mono ?_
      rintro e' w12 ⟨b2, rfl, hb2, B12⟩
      have J2 := Aside0.mk (And.intro (J1.out.1.trans (B12.mono J1.out.1.size)) (Kd.C_below J1.out.2 B12))
      replace hb2 := Aside0.mk hb2
      clear B12 J1
      cases b2
      · clear ho1 hb2
        have hI2 : Aside0 (Below w.heap.size w w12 ∧ ci = ci ∧ Kd.C (Kd.int .i64) w12 Ai l.length l) := ⟨J2.out.1, rfl, J2.out.2⟩
        clear J2
        go_wp2_with fail
        go_roundg gk1
        case rel => exact ⟨i + 1, hi1, by go_num, hI2⟩
        case measure => exact hgk1
      have ho2 := Aside0.mk (hb2.out.1 rfl).2
      clear hb2
      go_wp2_with fail
      refine (dominates_any Ai ci l (i : Int) r _ J2.out.2 H10.out.2.1 hlen).mono ?_
      rintro e' w13 ⟨b3, rfl, hb3, B13⟩
      have J3 := Aside0.mk (And.intro (J2.out.1.trans (B13.mono J2.out.1.size)) (Kd.C_below J2.out.2 B13))
      obtain rfl : b3 = true := by
        refine hb3.2 ((idm_dom hN.out hI.out).2 ((idm_on hN.out hI.out hrr.out (i : Int)).1 (hL.out.2.2 _ ho1.out ho2.out)))
      clear ho1 ho2 hb3 B13 J2
      have hI2 : Aside0 (Below w.heap.size w w13 ∧ ci = ci ∧ Kd.C (Kd.int .i64) w13 Ai l.length l) := ⟨J3.out.1, rfl, J3.out.2⟩
      clear J3
      go_wp2_with fail
      go_roundg gk1
      case rel => exact ⟨i + 1, hi1, by go_num, hI2⟩
      case measure => exact hgk1
    · go_wp2_with fail
      refine (works_any _).mono ?_
      rintro e' w14 ⟨rfl, B14⟩
      have hF := Aside0.mk (hJ.out.1.trans (B14.mono hJ.out.1.size))
      clear B14 hJ
      go_wp2
      go_ret
      exact ⟨rfl, hF.out⟩
end Go.Proofs.Ytbphjbfnnhfhlaa
end

