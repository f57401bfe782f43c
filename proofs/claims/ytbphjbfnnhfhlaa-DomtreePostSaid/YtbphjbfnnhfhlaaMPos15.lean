import Derived.Test.YtbphjbfnnhfhlaaMPos14
section
/- The reference's Build in plain lists: the strict dominator with the most strict dominators is the immediate one. -/
set_option linter.unusedVariables false
set_option linter.unusedSimpArgs false
set_option linter.unusedSectionVars false
namespace Go.Proofs.Ytbphjbfnnhfhlaa
open Go.RowKit Go.Proofs.YtbphjbfnnhfhlaaW.PrintWords Go.Proofs.Ytbphjbfnnhfhlaa.PDigraphTells Mem

def tbn (n : Nat) (f : Nat → Int) : List Int := (List.range n).map f
theorem tbn_len (n : Nat) (f : Nat → Int) : (tbn n f).length = n := by simp [tbn]
theorem tbn_rd {n : Nat} (f : Nat → Int) {i : Nat} (h : i < n) : rd (tbn n f) (i : Int) = f i := by
  rw [rd_get _ i (by rw [tbn_len]; exact h)]; simp [tbn]
theorem tbn_set {n : Nat} (f : Nat → Int) (i : Nat) (v : Int) : (tbn n f).set i v = tbn n (fun c => if c = i then v else f c) := by
  refine List.ext_getElem (by simp [tbn]) fun j h1 h2 => ?_
  rw [List.getElem_set]
  simp only [tbn, List.getElem_map, List.getElem_range]
  by_cases e : i = j
  · rw [if_pos e, if_pos e.symm]
  · rw [if_neg e, if_neg (fun h => e h.symm)]
theorem tbn_ext {n : Nat} {f g : Nat → Int} (h : ∀ i, i < n → f i = g i) : tbn n f = tbn n g := by
  unfold tbn
  exact List.map_congr_left fun i hi => h i (List.mem_range.1 hi)

open Classical in
/-- a dominates b strictly. -/
noncomputable def sdB (G : List (List Int)) (e a b : Int) : Bool := decide (a ≠ b ∧ domG G e a b)
theorem sdB_iff {G : List (List Int)} {e a b : Int} : sdB G e a b = true ↔ a ≠ b ∧ domG G e a b := by unfold sdB; simp
noncomputable def cntU (G : List (List Int)) (e : Int) (a : Nat) (c : Int) : Nat := ((List.range a).filter fun (x : Nat) => sdB G e (x : Int) c).length
noncomputable def rowU (G : List (List Int)) (e : Int) (a : Int) (b : Nat) : List Int := ((List.range b).filter fun (c : Nat) => sdB G e a (c : Int)).map fun (c : Nat) => (c : Int)
noncomputable def domsU (G : List (List Int)) (e : Int) (a : Nat) : List (List Int) := (List.range a).map fun (x : Nat) => rowU G e (x : Int) G.length
theorem cntU_succ (G : List (List Int)) (e : Int) (a : Nat) (c : Int) : cntU G e (a + 1) c = cntU G e a c + if sdB G e (a : Int) c = true then 1 else 0 := by
  unfold cntU
  rw [List.range_succ, List.filter_append, List.length_append]
  by_cases h : sdB G e (a : Int) c = true <;> simp [h]
theorem cntU_le (G : List (List Int)) (e : Int) (a : Nat) (c : Int) : cntU G e a c ≤ a := by
  unfold cntU
  have := List.length_filter_le (fun (x : Nat) => sdB G e (x : Int) c) (List.range a)
  rwa [List.length_range] at this
theorem rowU_succ (G : List (List Int)) (e a : Int) (b : Nat) : rowU G e a (b + 1) = rowU G e a b ++ if sdB G e a (b : Int) = true then [(b : Int)] else [] := by
  unfold rowU
  rw [List.range_succ, List.filter_append, List.map_append]
  by_cases h : sdB G e a (b : Int) = true <;> simp [h]
theorem rowU_len (G : List (List Int)) (e a : Int) (b : Nat) : (rowU G e a b).length ≤ b := by
  unfold rowU
  rw [List.length_map]
  have := List.length_filter_le (fun (c : Nat) => sdB G e a (c : Int)) (List.range b)
  rwa [List.length_range] at this
theorem mem_rowU {G : List (List Int)} {e a b : Int} : b ∈ rowU G e a G.length ↔ isNode G b ∧ sdB G e a b = true := by
  unfold rowU isNode
  rw [List.mem_map]
  constructor
  · rintro ⟨c, hc, rfl⟩
    rw [List.mem_filter, List.mem_range] at hc
    exact ⟨⟨by omega, by omega⟩, hc.2⟩
  · rintro ⟨⟨h1, h2⟩, h3⟩
    have e1 : b = (b.toNat : Int) := (Int.toNat_of_nonneg h1).symm
    exact ⟨b.toNat, List.mem_filter.2 ⟨List.mem_range.2 (by omega), by rw [← e1]; exact h3⟩, e1.symm⟩
theorem domsU_succ (G : List (List Int)) (e : Int) (a : Nat) : domsU G e (a + 1) = domsU G e a ++ [rowU G e (a : Int) G.length] := by
  unfold domsU
  rw [List.range_succ, List.map_append]
  rfl
theorem domsU_len (G : List (List Int)) (e : Int) (a : Nat) : (domsU G e a).length = a := by simp [domsU]
theorem domsU_rd (G : List (List Int)) (e : Int) {a i : Nat} (h : i < a) : rd_L1 (domsU G e a) (i : Int) = rowU G e (i : Int) G.length := by
  rw [rd1_get _ i (by rw [domsU_len]; exact h)]
  simp [domsU]
theorem ra_none {G : List (List Int)} {e x : Int} (h : chk G = 0 ∧ isNode G e) (hx : isNode G x) : RA (adj G) e (-1) x ↔ Grf.Reach (adj G) e x := by
  constructor
  · exact RA.reach
  · intro hr
    have he := h.2
    unfold isNode at he
    clear hx
    induction hr with
    | refl => exact .base (by omega)
    | @tail b y hb hy ih =>
      have := reach_node h (hb.tail hy)
      unfold isNode at this
      exact .step ih hy (by omega)
theorem dom_chain {G : List (List Int)} {e u v x : Int} (hu : domG G e u x) (hv : domG G e v x) : domG G e u v ∨ domG G e v u := by
  by_cases h1 : domG G e u v
  · exact .inl h1
  · by_cases h2 : domG G e v u
    · exact .inr h2
    · exfalso
      have r1 : RA (adj G) e u v := Classical.byContradiction fun h => h1 ⟨dom_reach hv, h⟩
      have r2 : RA (adj G) e v u := Classical.byContradiction fun h => h2 ⟨dom_reach hu, h⟩
      have key : ∀ y, Grf.Reach (adj G) e y → RA (adj G) e u y ∨ RA (adj G) e v y := by
        intro y hy
        induction hy with
        | refl =>
          by_cases e1 : e = u
          · subst e1; exact .inr r2
          · exact .inl (.base e1)
        | @tail b y hb hy ih =>
          rcases ih with ih | ih
          · by_cases e1 : y = u
            · subst e1; exact .inr r2
            · exact .inl (.step ih hy e1)
          · by_cases e1 : y = v
            · subst e1; exact .inl r1
            · exact .inr (.step ih hy e1)
      rcases key x hu.1 with h | h
      · exact hu.2 h
      · exact hv.2 h
theorem cnt_less {G : List (List Int)} {e d v : Int} (h : chk G = 0 ∧ isNode G e) (h1 : domG G e d v) (hn : d ≠ v) : cntU G e G.length d < cntU G e G.length v := by
  have hdn := reach_node h (dom_reach h1)
  unfold isNode at hdn
  have e1 : d = (d.toNat : Int) := (Int.toNat_of_nonneg hdn.1).symm
  unfold cntU
  refine Grf.filter_lt _ _ _ (fun x _ hx => ?_) ⟨d.toNat, List.mem_range.2 (by omega), ?_, ?_⟩
  · rw [sdB_iff] at hx ⊢
    refine ⟨fun e2 => ?_, dom_trans hx.2 h1⟩
    rw [e2] at hx
    exact hx.1 (dom_anti h1 hx.2 |>.symm ▸ rfl)
  · rw [← e1]
    cases e3 : sdB G e d d with
    | false => rfl
    | true => exact absurd rfl (sdB_iff.1 e3).1
  · rw [← e1]; exact sdB_iff.2 ⟨hn, h1⟩
/-- The list under way: pairs of P are done. -/
structure Bu (G : List (List Int)) (e : Int) (T : List Int) (P : Int → Int → Prop) : Prop where
  len : T.length = G.length
  ent : rd T e = e
  out : ∀ x, isNode G x → ¬ Grf.Reach (adj G) e x → rd T x = -1
  up : ∀ x, Grf.Reach (adj G) e x → x ≠ e → (rd T x = -1 ∧ ∀ a, P a x → sdB G e a x = false) ∨ (sdB G e (rd T x) x = true ∧ ∀ a, P a x → sdB G e a x = true → cntU G e G.length a ≤ cntU G e G.length (rd T x))
def Pj (G : List (List Int)) (e : Int) (i : Nat) (row : List Int) (a x : Int) : Prop := (0 ≤ a ∧ a < i) ∨ (a = i ∧ x ∈ row)
theorem Bu.imp {G : List (List Int)} {e : Int} {T : List Int} {P Q : Int → Int → Prop} (h : Bu G e T P) (hq : ∀ a x, Q a x → sdB G e a x = true → P a x) : Bu G e T Q := by
  refine ⟨h.len, h.ent, h.out, fun x hx hn => ?_⟩
  rcases h.up x hx hn with ⟨h1, h2⟩ | ⟨h1, h2⟩
  · refine .inl ⟨h1, fun a ha => ?_⟩
    cases e1 : sdB G e a x with
    | false => rfl
    | true => rw [← e1]; exact h2 a (hq a x ha e1)
  · exact .inr ⟨h1, fun a ha hs => h2 a (hq a x ha hs) hs⟩
section
variable {G : List (List Int)} {e : Int} (h : chk G = 0 ∧ isNode G e)
include h
theorem Bu.idm {T : List Int} (hB : Bu G e T (fun a _ => 0 ≤ a ∧ a < G.length)) : Idm G e T := by
  refine ⟨hB.len, hB.out, hB.ent, fun x hx hn => ?_⟩
  have he := h.2
  unfold isNode at he
  have hex : sdB G e e x = true := sdB_iff.2 ⟨Ne.symm hn, hx, ra_self⟩
  rcases hB.up x hx hn with ⟨h1, h2⟩ | ⟨h1, h2⟩
  · have := h2 e he
    rw [hex] at this
    cases this
  · have hs := sdB_iff.1 h1
    refine ⟨hs.2, hs.1, fun v hv hvx => ?_⟩
    have hvn := reach_node h (dom_reach hv)
    unfold isNode at hvn
    rcases dom_chain hv hs.2 with h3 | h3
    · exact h3
    · by_cases e1 : rd T x = v
      · rw [e1]; exact dom_self (dom_reach hv)
      · have h4 := cnt_less h h3 e1
        have h5 := h2 v hvn (sdB_iff.2 ⟨hvx, hv⟩)
        omega
theorem Bu.keep {T : List Int} {i : Nat} {row : List Int} {b : Int} (hB : Bu G e T (Pj G e i row)) (hs : sdB G e (i : Int) b = true) (hc : 0 ≤ rd T b) (hle : cntU G e G.length (i : Int) ≤ cntU G e G.length (rd T b)) : Bu G e T (Pj G e i (row ++ [b])) := by
  refine ⟨hB.len, hB.ent, hB.out, fun x hx hn => ?_⟩
  by_cases e1 : x = b
  · subst e1
    rcases hB.up x hx hn with ⟨h1, h2⟩ | ⟨h1, h2⟩
    · omega
    · refine .inr ⟨h1, fun a ha hsa => ?_⟩
      rcases ha with ha | ⟨rfl, _⟩
      · exact h2 a (.inl ha) hsa
      · exact hle
  · have hP : ∀ a, Pj G e i (row ++ [b]) a x → Pj G e i row a x := fun a ha => by
      rcases ha with ha | ⟨h1, h2⟩
      · exact .inl ha
      · rcases List.mem_append.1 h2 with h3 | h3
        · exact .inr ⟨h1, h3⟩
        · exact absurd (List.mem_singleton.1 h3) e1
    rcases hB.up x hx hn with ⟨h1, h2⟩ | ⟨h1, h2⟩
    · exact .inl ⟨h1, fun a ha => h2 a (hP a ha)⟩
    · exact .inr ⟨h1, fun a ha => h2 a (hP a ha)⟩
theorem Bu.put {T : List Int} {i : Nat} {row : List Int} {b : Int} (hB : Bu G e T (Pj G e i row)) (hs : sdB G e (i : Int) b = true) (hb : isNode G b) (hc : rd T b < 0 ∨ cntU G e G.length (rd T b) < cntU G e G.length (i : Int)) : Bu G e (T.set b.toNat (i : Int)) (Pj G e i (row ++ [b])) := by
  have hsd := sdB_iff.1 hs
  have hbe : b ≠ e := fun e1 => hsd.1 (by rw [e1] at hsd; rw [e1]; exact dom_root hsd.2)
  have hbn : idx T b := by unfold isNode at hb; unfold idx; rw [hB.len]; exact hb
  have he := h.2
  unfold isNode at he
  refine ⟨by rw [List.length_set]; exact hB.len, ?_, fun x hx hr => ?_, fun x hx hn => ?_⟩
  · rw [rd_set T b _ e hbn he.1, if_neg (Ne.symm hbe)]; exact hB.ent
  · rw [rd_set T b _ x hbn hx.1, if_neg (fun e1 => hr (by rw [e1]; exact hsd.2.1))]; exact hB.out x hx hr
  · have hxn := reach_node h hx
    rw [rd_set T b _ x hbn hxn.1]
    by_cases e1 : x = b
    · subst e1
      rw [if_pos rfl]
      refine .inr ⟨hs, fun a ha hsa => ?_⟩
      rcases ha with ha | ⟨rfl, _⟩
      · rcases hB.up x hx hn with ⟨h1, h2⟩ | ⟨h1, h2⟩
        · have := h2 a (.inl ha); rw [hsa] at this; cases this
        · have h3 := h2 a (.inl ha) hsa
          rcases hc with hc | hc
          · have h4 := (reach_node h (dom_reach (sdB_iff.1 h1).2)).1
            omega
          · omega
      · exact Nat.le_refl _
    · rw [if_neg e1]
      have hP : ∀ a, Pj G e i (row ++ [b]) a x → Pj G e i row a x := fun a ha => by
        rcases ha with ha | ⟨h1, h2⟩
        · exact .inl ha
        · rcases List.mem_append.1 h2 with h3 | h3
          · exact .inr ⟨h1, h3⟩
          · exact absurd (List.mem_singleton.1 h3) e1
      rcases hB.up x hx hn with ⟨h1, h2⟩ | ⟨h1, h2⟩
      · exact .inl ⟨h1, fun a ha => h2 a (hP a ha)⟩
      · exact .inr ⟨h1, fun a ha => h2 a (hP a ha)⟩
end
section
variable {G : List (List Int)} {e : Int} (h : chk G = 0 ∧ isNode G e) (hl : G.length ≤ 100)
include h hl
theorem rb_l4 {i : Nat} (hi : i < G.length) (hnext : ∀ T, Bu G e T (Pj G e (i + 1) []) → ∃ r, Ev (fun q => burnishref08_Build.l3 q (G.length : Int) T (tbn G.length fun c => (cntU G e G.length (c : Int) : Int)) (domsU G e G.length) ((i + 1 : Nat) : Int)) r ∧ Idm G e r) :
    ∀ (d j : Nat) (T : List Int), j + d = (rowU G e (i : Int) G.length).length → Bu G e T (Pj G e i ((rowU G e (i : Int) G.length).take j)) →
      ∃ r, Ev (fun q => burnishref08_Build.l4 q (G.length : Int) T (tbn G.length fun c => (cntU G e G.length (c : Int) : Int)) (domsU G e G.length) (i : Int) (rowU G e (i : Int) G.length) ((rowU G e (i : Int) G.length).length : Int) (j : Int)) r ∧ Idm G e r := by
  have hrl := rowU_len G e (i : Int) G.length
  have hrow : ∀ b ∈ rowU G e (i : Int) G.length, isNode G b ∧ sdB G e (i : Int) b = true := fun b hb => mem_rowU.1 hb
  have hall : ∀ b, isNode G b → sdB G e (i : Int) b = true → b ∈ rowU G e (i : Int) G.length := fun b h1 h2 => mem_rowU.2 ⟨h1, h2⟩
  have hrd : ∀ x, isNode G x → rd (tbn G.length fun c => (cntU G e G.length (c : Int) : Int)) x = (cntU G e G.length x : Int) := fun x hx => by
    unfold isNode at hx
    have e1 : x = (x.toNat : Int) := (Int.toNat_of_nonneg hx.1).symm
    rw [e1, tbn_rd _ (by omega)]
  have hct := tbn_len G.length fun c => (cntU G e G.length (c : Int) : Int)
  obtain ⟨row, hrw⟩ : ∃ row, rowU G e (i : Int) G.length = row := ⟨_, rfl⟩
  obtain ⟨C, hC⟩ : ∃ C, (tbn G.length fun c => (cntU G e G.length (c : Int) : Int)) = C := ⟨_, rfl⟩
  rw [hrw] at hrl hrow hall ⊢
  rw [hC] at hnext hrd hct ⊢
  intro d
  induction d with
  | zero =>
    intro j T hj hB
    rw [List.take_of_length_le (by omega)] at hB
    obtain ⟨r, h1, h2⟩ := hnext T (hB.imp fun a x ha hs => by
      rcases ha with ha | ha
      · by_cases e1 : a = (i : Int)
        · refine .inr ⟨e1, ?_⟩
          rw [e1] at hs
          exact hall x (reach_node h (sdB_iff.1 hs).2.1) hs
        · exact .inl ⟨ha.1, by omega⟩
      · exact absurd ha.2 (by simp))
    refine ⟨r, Ev.suc (fun q => ?_) h1, h2⟩
    show burnishref08_Build.l4 (q + 1) _ _ _ _ _ _ _ _ = _
    rw [burnishref08_Build.l4, if_neg (by omega), w64 i (i + 1) (by omega) (by omega)]
  | succ d ih =>
    intro j T hj hB
    have hlt : j < row.length := by omega
    have htk : row.take (j + 1) = row.take j ++ [row[j]] := List.take_succ_eq_append_getElem hlt
    obtain ⟨hbn, hbs⟩ := hrow row[j] (List.getElem_mem hlt)
    obtain ⟨b, hb⟩ : ∃ b, row[j] = b := ⟨_, rfl⟩
    rw [hb] at htk hbn hbs
    have hbn' := hbn
    unfold isNode at hbn'
    have hin : isNode G (i : Int) := ⟨by omega, by omega⟩
    have hw := w64 j (j + 1) (by omega) (by omega)
    by_cases h1 : rd T b < 0
    · obtain ⟨r, h2, h3⟩ := ih (j + 1) _ (by omega) (by rw [htk]; exact hB.put h hbs hbn (.inl h1))
      refine ⟨r, Ev.suc (fun q => ?_) h2, h3⟩
      show burnishref08_Build.l4 (q + 1) _ _ _ _ _ _ _ _ = _
      rw [burnishref08_Build.l4, if_pos (by omega), if_pos (by omega), if_pos (by omega), rd_get row j hlt, hb, if_pos hbn'.1, if_pos (by rw [hB.len]; exact hbn'.2), if_pos h1, hw]
    · have hpn : isNode G (rd T b) := by
        have hr := (sdB_iff.1 hbs).2.1
        by_cases e1 : b = e
        · rw [e1, hB.ent]; exact h.2
        · rcases hB.up b hr e1 with ⟨h5, _⟩ | ⟨h5, _⟩
          · omega
          · exact reach_node h (dom_reach (sdB_iff.1 h5).2)
      have hpn' := hpn
      unfold isNode at hpn'
      by_cases h2 : (cntU G e G.length (i : Int) : Int) > (cntU G e G.length (rd T b) : Int)
      · obtain ⟨r, h3, h4⟩ := ih (j + 1) _ (by omega) (by rw [htk]; exact hB.put h hbs hbn (.inr (by omega)))
        refine ⟨r, Ev.suc (fun q => ?_) h3, h4⟩
        show burnishref08_Build.l4 (q + 1) _ _ _ _ _ _ _ _ = _
        rw [burnishref08_Build.l4, if_pos (by omega), if_pos (by omega), if_pos (by omega), rd_get row j hlt, hb, if_pos hbn'.1, if_pos (by rw [hB.len]; exact hbn'.2), if_neg h1, if_pos hin.1, if_pos (by rw [hct]; exact hin.2), if_pos hpn'.1, if_pos (by rw [hct]; exact hpn'.2), hrd _ hin, hrd _ hpn, if_pos h2, hw]
      · obtain ⟨r, h3, h4⟩ := ih (j + 1) T (by omega) (by rw [htk]; exact hB.keep h hbs hpn'.1 (by omega))
        refine ⟨r, Ev.suc (fun q => ?_) h3, h4⟩
        show burnishref08_Build.l4 (q + 1) _ _ _ _ _ _ _ _ = _
        rw [burnishref08_Build.l4, if_pos (by omega), if_pos (by omega), if_pos (by omega), rd_get row j hlt, hb, if_pos hbn'.1, if_pos (by rw [hB.len]; exact hbn'.2), if_neg h1, if_pos hin.1, if_pos (by rw [hct]; exact hin.2), if_pos hpn'.1, if_pos (by rw [hct]; exact hpn'.2), hrd _ hin, hrd _ hpn, if_neg h2, hw]
theorem rb_l3 : ∀ (d i : Nat) (T : List Int), i + d = G.length → Bu G e T (Pj G e i []) →
    ∃ r, Ev (fun q => burnishref08_Build.l3 q (G.length : Int) T (tbn G.length fun c => (cntU G e G.length (c : Int) : Int)) (domsU G e G.length) (i : Int)) r ∧ Idm G e r := by
  intro d
  induction d with
  | zero =>
    intro i T hi hB
    obtain rfl : i = G.length := by omega
    refine ⟨T, Ev.suc (fun q => ?_) (Ev.ret _), Bu.idm h (hB.imp fun a x ha _ => .inl ha)⟩
    show burnishref08_Build.l3 (q + 1) _ _ _ _ _ = _
    rw [burnishref08_Build.l3, if_neg (by omega)]
  | succ d ih =>
    intro i T hi hB
    obtain ⟨r, h1, h2⟩ := rb_l4 h hl (i := i) (by omega) (fun T hT => ih (i + 1) T (by omega) hT) _ 0 T (Nat.zero_add _) (by rw [List.take_zero]; exact hB)
    refine ⟨r, Ev.suc (fun q => ?_) h1, h2⟩
    show burnishref08_Build.l3 (q + 1) _ _ _ _ _ = _
    rw [burnishref08_Build.l3, if_pos (by omega), if_pos (by omega), if_pos (by rw [domsU_len]; omega), domsU_rd G e (by omega)]
    rfl
theorem rb_l2 {all rest : List Bool} {T : List Int} {r : List Int} {a : Nat} (ha : a < G.length) (hall : WoF G e (-1) all) (hrest : WoF G e (a : Int) rest)
    (hnext : Ev (fun q => burnishref08_Build.l1 q e (G.length : Int) all T (tbn G.length fun c => (cntU G e (a + 1) (c : Int) : Int)) (domsU G e (a + 1)) ((a + 1 : Nat) : Int) G) r) :
    ∀ (d b : Nat), b + d = G.length → Ev (fun q => burnishref08_Build.l2 q e (G.length : Int) all T (tbn G.length fun c => (cntU G e a (c : Int) : Int) + if c < b ∧ sdB G e (a : Int) (c : Int) = true then 1 else 0) (domsU G e a) (a : Int) (rowU G e (a : Int) b) rest (b : Int) G) r := by
  intro d
  induction d with
  | zero =>
    intro b hb
    obtain rfl : b = G.length := by omega
    refine Ev.suc (fun q => ?_) hnext
    show burnishref08_Build.l2 (q + 1) _ _ _ _ _ _ _ _ _ _ _ = _
    rw [burnishref08_Build.l2, if_neg (by omega), if_pos (by rw [domsU_len]; omega), w64 a (a + 1) (by omega) (by omega), ← domsU_succ]
    congr 1
    refine tbn_ext fun c hc => ?_
    rw [cntU_succ]
    by_cases h1 : sdB G e (a : Int) (c : Int) = true
    · rw [if_pos ⟨hc, h1⟩, if_pos h1]; rfl
    · rw [if_neg (fun h2 => h1 h2.2), if_neg h1]; rfl
  | succ d ih =>
    intro b hb
    have hbn : isNode G (b : Int) := ⟨by omega, by omega⟩
    have hm1 := (hall.2 _ hbn).trans (ra_none h hbn)
    have hm2 := hrest.2 _ hbn
    have hskip : sdB G e (a : Int) (b : Int) = false → (tbn G.length fun c => (cntU G e a (c : Int) : Int) + if c < b ∧ sdB G e (a : Int) (c : Int) = true then 1 else 0) = (tbn G.length fun c => (cntU G e a (c : Int) : Int) + if c < b + 1 ∧ sdB G e (a : Int) (c : Int) = true then 1 else 0) ∧ rowU G e (a : Int) b = rowU G e (a : Int) (b + 1) := fun hs => by
      refine ⟨tbn_ext fun c hc => ?_, by rw [rowU_succ, hs]; simp⟩
      congr 1
      by_cases e1 : c = b
      · subst e1; rw [if_neg (by omega), if_neg (by rw [hs]; simp)]
      · by_cases h1 : c < b ∧ sdB G e (a : Int) (c : Int) = true
        · rw [if_pos h1, if_pos ⟨by omega, h1.2⟩]
        · rw [if_neg h1, if_neg (fun h2 => h1 ⟨by omega, h2.2⟩)]
    have hw := w64 b (b + 1) (by omega) (by omega)
    by_cases h1 : (b : Int) = (a : Int)
    · obtain ⟨s1, s2⟩ := hskip (by cases e1 : sdB G e (a : Int) (b : Int) with | false => rfl | true => exact absurd h1.symm (sdB_iff.1 e1).1)
      rw [s1, s2]
      refine Ev.suc (fun q => ?_) (ih (b + 1) (by omega))
      show burnishref08_Build.l2 (q + 1) _ _ _ _ _ _ _ _ _ _ _ = _
      rw [burnishref08_Build.l2, if_pos (by omega), if_pos h1, hw]
    · by_cases h2 : metOf all (b : Int) = true
      · by_cases h3 : metOf rest (b : Int) = true
        · obtain ⟨s1, s2⟩ := hskip (by cases e1 : sdB G e (a : Int) (b : Int) with | false => rfl | true => exact absurd (hm2.1 h3) (sdB_iff.1 e1).2.2)
          rw [s1, s2]
          refine Ev.suc (fun q => ?_) (ih (b + 1) (by omega))
          show burnishref08_Build.l2 (q + 1) _ _ _ _ _ _ _ _ _ _ _ = _
          rw [burnishref08_Build.l2, if_pos (by omega), if_neg h1, if_pos (by omega), if_pos (by rw [hall.1]; omega), metOf_rd _ _ (by omega), if_pos h2, if_pos (by rw [hrest.1]; omega), metOf_rd _ _ (by omega), if_pos h3, hw]
        · have hs : sdB G e (a : Int) (b : Int) = true := sdB_iff.2 ⟨fun e1 => h1 e1.symm, hm1.1 h2, fun hr => h3 (hm2.2 hr)⟩
          refine Ev.suc (fun q => ?_) (ih (b + 1) (by omega))
          show burnishref08_Build.l2 (q + 1) _ _ _ _ _ _ _ _ _ _ _ = _
          have hrl := rowU_len G e (a : Int) b
          have hcl := cntU_le G e a (b : Int)
          rw [burnishref08_Build.l2, if_pos (by omega), if_neg h1, if_pos (by omega), if_pos (by rw [hall.1]; omega), metOf_rd _ _ (by omega), if_pos h2, if_pos (by rw [hrest.1]; omega), metOf_rd _ _ (by omega), if_neg h3, if_pos (by omega), if_pos (by rw [tbn_len]; omega), hw, tbn_rd _ (by omega), rowU_succ, if_pos hs]
          congr 1
          rw [Int.toNat_natCast, tbn_set]
          refine tbn_ext fun c hc => ?_
          by_cases e1 : c = b
          · subst e1
            rw [if_pos rfl, if_neg (by omega), if_pos ⟨by omega, hs⟩]
            unfold wrap64; omega
          · rw [if_neg e1]
            congr 1
            by_cases h4 : c < b ∧ sdB G e (a : Int) (c : Int) = true
            · rw [if_pos h4, if_pos ⟨by omega, h4.2⟩]
            · rw [if_neg h4, if_neg (fun h5 => h4 ⟨by omega, h5.2⟩)]
      · obtain ⟨s1, s2⟩ := hskip (by cases e1 : sdB G e (a : Int) (b : Int) with | false => rfl | true => exact absurd (hm1.2 (sdB_iff.1 e1).2.1) h2)
        rw [s1, s2]
        refine Ev.suc (fun q => ?_) (ih (b + 1) (by omega))
        show burnishref08_Build.l2 (q + 1) _ _ _ _ _ _ _ _ _ _ _ = _
        rw [burnishref08_Build.l2, if_pos (by omega), if_neg h1, if_pos (by omega), if_pos (by rw [hall.1]; omega), metOf_rd _ _ (by omega), if_neg h2, hw]
theorem rb_l1 (hr : ∀ l ∈ G, l.length ≤ 1000000) {all : List Bool} {T : List Int} {r : List Int} (hall : WoF G e (-1) all)
    (hnext : Ev (fun q => burnishref08_Build.l3 q (G.length : Int) T (tbn G.length fun c => (cntU G e G.length (c : Int) : Int)) (domsU G e G.length) ((0 : Nat) : Int)) r) :
    ∀ (d a : Nat), a + d = G.length → Ev (fun q => burnishref08_Build.l1 q e (G.length : Int) all T (tbn G.length fun c => (cntU G e a (c : Int) : Int)) (domsU G e a) (a : Int) G) r := by
  intro d
  induction d with
  | zero =>
    intro a ha
    obtain rfl : a = G.length := by omega
    refine Ev.suc (fun q => ?_) hnext
    show burnishref08_Build.l1 (q + 1) _ _ _ _ _ _ _ _ = _
    rw [burnishref08_Build.l1, if_neg (by omega)]
    rfl
  | succ d ih =>
    intro a ha
    have han : isNode G (a : Int) := ⟨by omega, by omega⟩
    have hm1 := (hall.2 _ han).trans (ra_none h han)
    have h1 := ih (a + 1) (by omega)
    by_cases h2 : metOf all (a : Int) = true
    · obtain ⟨rest, h3, h4⟩ := without_f h.1 hl hr (e := e) (a := (a : Int)) h.2
      have h5 := rb_l2 h hl (all := all) (rest := rest) (T := T) (r := r) (a := a) (by omega) hall h4 h1 G.length 0 (Nat.zero_add _)
      refine Ev.suc (h := fun q => (burnishref08_without.f q G e (a : Int)).bind fun t224 => (burnishref08_Build.l2 q e (G.length : Int) all T (tbn G.length fun c => (cntU G e a (c : Int) : Int)) (domsU G e a) (a : Int) ([] : List Int) t224 0 G)) (fun q => ?_) (Ev.bind h3 ?_)
      · show burnishref08_Build.l1 (q + 1) _ _ _ _ _ _ _ _ = _
        rw [burnishref08_Build.l1, if_pos (by omega), if_pos (by omega), if_pos (by rw [hall.1]; omega), metOf_rd _ _ (by omega), if_pos h2]
      · have e1 : (tbn G.length fun c => (cntU G e a (c : Int) : Int) + if c < 0 ∧ sdB G e (a : Int) (c : Int) = true then 1 else 0) = tbn G.length fun c => (cntU G e a (c : Int) : Int) := tbn_ext fun c hc => by rw [if_neg (by omega)]; omega
        rw [e1] at h5
        exact h5
    · have hno : ∀ b, sdB G e (a : Int) b = false := fun b => by
        cases e1 : sdB G e (a : Int) b with
        | false => rfl
        | true => exact absurd (hm1.2 (dom_reach (sdB_iff.1 e1).2)) h2
      refine Ev.suc (fun q => ?_) h1
      show burnishref08_Build.l1 (q + 1) _ _ _ _ _ _ _ _ = _
      rw [burnishref08_Build.l1, if_pos (by omega), if_pos (by omega), if_pos (by rw [hall.1]; omega), metOf_rd _ _ (by omega), if_neg h2, if_pos (by rw [domsU_len]; omega), w64 a (a + 1) (by omega) (by omega), domsU_succ]
      congr 1
      · refine tbn_ext fun c hc => ?_
        rw [cntU_succ, hno, if_neg (by simp)]; rfl
      · congr 2
        unfold rowU
        simp [hno]
theorem rb_l0 (hr : ∀ l ∈ G, l.length ≤ 1000000) {all : List Bool} {C : List Int} {r : List Int}
    (hnext : Ev (fun q => burnishref08_Build.l1 q e (G.length : Int) all ((tbn G.length fun _ => -1).set e.toNat e) C [] 0 G) r) :
    ∀ (d i : Nat), i + d = G.length → Ev (fun q => burnishref08_Build.l0 q e (G.length : Int) all (tbn G.length fun c => if c < i then -1 else 0) C (G.length : Int) (i : Int) G) r := by
  have he := h.2
  unfold isNode at he
  intro d
  induction d with
  | zero =>
    intro i hi
    obtain rfl : i = G.length := by omega
    refine Ev.suc (fun q => ?_) hnext
    show burnishref08_Build.l0 (q + 1) _ _ _ _ _ _ _ _ = _
    rw [burnishref08_Build.l0, if_neg (by omega), if_pos he.1, if_pos (by rw [tbn_len]; exact he.2), show (tbn G.length fun c => if c < G.length then -1 else 0) = tbn G.length fun _ => -1 from tbn_ext fun c hc => by rw [if_pos hc]]
  | succ d ih =>
    intro i hi
    refine Ev.suc (fun q => ?_) (ih (i + 1) (by omega))
    show burnishref08_Build.l0 (q + 1) _ _ _ _ _ _ _ _ = _
    rw [burnishref08_Build.l0, if_pos (by omega), if_pos (by omega), if_pos (by rw [tbn_len]; omega), w64 i (i + 1) (by omega) (by omega), Int.toNat_natCast, tbn_set]
    congr 1
    refine tbn_ext fun c hc => ?_
    by_cases e1 : c = i
    · rw [if_pos e1, if_pos (by omega)]
    · rw [if_neg e1]
      by_cases h1 : c < i
      · rw [if_pos h1, if_pos (by omega)]
      · rw [if_neg h1, if_neg (by omega)]
theorem rb_yes (hr : ∀ l ∈ G, l.length ≤ 1000000) : ∃ r, Ev (fun q => burnishref08_Build.f q G e) r ∧ Idm G e r := by
  have he := h.2
  unfold isNode at he
  have hsh : short G := ⟨by omega, fun l hm => by have := hr l hm; omega⟩
  obtain ⟨all, h1, h2⟩ := without_f h.1 hl hr (e := e) (a := -1) h.2
  obtain ⟨r, h3, h4⟩ := rb_l3 h hl G.length 0 ((tbn G.length fun _ => -1).set e.toNat e) (Nat.zero_add _) (by
    have hid : idx (tbn G.length fun _ => (-1 : Int)) e := by unfold idx; rw [tbn_len]; exact he
    have hrd : ∀ x, isNode G x → rd (tbn G.length fun _ => (-1 : Int)) x = -1 := fun x hx => by
      unfold isNode at hx
      have e1 : x = (x.toNat : Int) := (Int.toNat_of_nonneg hx.1).symm
      rw [e1, tbn_rd _ (by omega)]
    refine ⟨by rw [List.length_set, tbn_len], by rw [rd_set _ e _ e hid he.1, if_pos rfl], fun x hx hn => ?_, fun x hx hn => ?_⟩
    · rw [rd_set _ e _ x hid hx.1, if_neg (fun e1 => hn (by rw [e1]; exact .refl _))]; exact hrd x hx
    · have hxn := reach_node h hx
      rw [rd_set _ e _ x hid hxn.1, if_neg hn]
      refine .inl ⟨hrd x hxn, fun a ha => ?_⟩
      rcases ha with ha | ha
      · exact absurd ha (by omega)
      · exact absurd ha.2 (by simp))
  have h5 := rb_l1 h hl hr h2 h3 G.length 0 (Nat.zero_add _)
  have e1 : (tbn G.length fun c => (cntU G e 0 (c : Int) : Int)) = List.replicate G.length 0 := by
    refine List.ext_getElem (by simp [tbn]) fun j h1 h2 => ?_
    simp [tbn, cntU]
  rw [e1, show domsU G e 0 = [] from rfl] at h5
  have h6 := rb_l0 h hl hr h5 G.length 0 (Nat.zero_add _)
  have e2 : (tbn G.length fun c => if c < 0 then (-1 : Int) else 0) = List.replicate G.length 0 := by
    refine List.ext_getElem (by simp [tbn]) fun j h1 h2 => ?_
    simp [tbn]
  rw [e2] at h6
  refine ⟨r, ?_, h4⟩
  unfold burnishref08_Build.f
  have hc := rchk_f G hsh
  rw [h.1] at hc
  refine Ev.bind hc (Ev.of (fun q => by rw [if_pos rfl, if_neg (by omega), decide_eq_false (by omega)]) (Ev.suc (h := fun q => (burnishref08_without.f q G e (-1)).bind fun t212 => (if 0 ≤ (G.length : Int) then (if ((G.length : Int) : Int).toNat ≤ 35184372088832 then ((some (List.replicate ((G.length : Int) : Int).toNat 0 : List Int)).bind fun y215 => (burnishref08_Build.l0 q e (G.length : Int) t212 y215 (List.replicate ((G.length : Int) : Int).toNat 0) (y215.length : Int) 0 G)) else (none)) else (none))) (fun q => ?_) (Ev.bind h1 ?_)))
  · show burnishref08_Build.j0 (q + 1) _ _ _ _ = _
    rw [burnishref08_Build.j0, if_neg (by simp)]
  · refine Ev.of (fun q => ?_) h6
    rw [if_pos (by omega), if_pos (by omega), Option.bind_some]
    simp
end
theorem rb_f {G : List (List Int)} (e : Int) (hl : G.length ≤ 100) (hr : ∀ l ∈ G, l.length ≤ 1000000) : ∃ r, Ev (fun q => burnishref08_Build.f q G e) r ∧ Bld G e r := by
  by_cases h : chk G = 0 ∧ isNode G e
  · obtain ⟨r, h1, h2⟩ := rb_yes h hl hr
    exact ⟨r, h1, .inl ⟨h, h2⟩⟩
  · refine ⟨[], ?_, .inr ⟨h, rfl⟩⟩
    have hsh : short G := ⟨by omega, fun l hm => by have := hr l hm; omega⟩
    unfold burnishref08_Build.f
    have hj : Ev (fun q => burnishref08_Build.j0 q e (G.length : Int) true G) [] := Ev.suc (fun q => by show burnishref08_Build.j0 (q + 1) _ _ _ _ = _; rw [burnishref08_Build.j0, if_pos rfl]) (Ev.ret _)
    refine Ev.bind (rchk_f G hsh) ?_
    by_cases h0 : chk G = 0
    · have hn : ¬ (0 ≤ e ∧ e < (G.length : Int)) := fun h1 => h ⟨h0, h1⟩
      by_cases h1 : e < 0
      · exact Ev.of (fun q => by rw [if_pos h0, if_pos h1]) hj
      · exact Ev.of (fun q => by rw [if_pos h0, if_neg h1, decide_eq_true (by omega)]) hj
    · exact Ev.of (fun q => by rw [if_neg h0]) hj
end Go.Proofs.Ytbphjbfnnhfhlaa
end

