/- The reference's Reachable, Distances and ShortestPath in plain lists. -/
import Derived.Test.YtjkclhpibielfaaDigB
set_option linter.unusedVariables false
set_option linter.unusedSimpArgs false
namespace Go.Proofs.Ytjkclhpibielfaa
open Go.RowKit Go.Proofs.YtjkclhpibielfaaW.PrintWords Go.Proofs.Ytjkclhpibielfaa.PDigraphTells

/-- Which nodes can be reached. -/
noncomputable def reachL (G : List (List Int)) (a : Int) : List Bool := by
  classical exact if chk G = 0 ∧ isNode G a then (nodes G).map fun x => decide (Grf.Reach (adj G) a x) else []
theorem reachL_len {G : List (List Int)} {a : Int} (h : chk G = 0 ∧ isNode G a) : (reachL G a).length = G.length := by
  unfold reachL; rw [if_pos h, List.length_map, nodes_len]
theorem reachL_get {G : List (List Int)} {a : Int} (h : chk G = 0 ∧ isNode G a) {x : Int} (hx : isNode G x) : metOf (reachL G a) x = true ↔ Grf.Reach (adj G) a x := by
  classical
  have hx' := hx
  unfold isNode at hx
  have hi : x.toNat < G.length := by omega
  unfold reachL
  rw [if_pos h]
  have e : x = (x.toNat : Int) := by omega
  rw [e, metOf_get _ x.toNat (by rw [List.length_map, nodes_len]; exact hi), List.getElem_map]
  unfold nodes
  rw [List.getElem_map, List.getElem_range]
  simp
theorem reachL_eq {G : List (List Int)} {a : Int} (h : chk G = 0 ∧ isNode G a) {l : List Bool} (hl : l.length = G.length) (hs : ∀ x, metOf l x = true → Grf.Reach (adj G) a x) (ha : metOf l a = true) (hc : ∀ x, metOf l x = true → ∀ y ∈ adj G x, metOf l y = true) : l = reachL G a := by
  refine metOf_ext (by rw [hl, reachL_len h]) fun x h0 h1 => ?_
  have hx : isNode G x := by unfold isNode; omega
  have h2 := reachL_get h hx
  cases e : metOf l x with
  | true => exact (h2.2 (hs x e)).symm
  | false =>
    cases e2 : metOf (reachL G a) x with
    | false => rfl
    | true => rw [(h2.1 e2).closed ha hc] at e; cases e
theorem reachL_nil {G : List (List Int)} {a : Int} (h : ¬ (chk G = 0 ∧ isNode G a)) : reachL G a = [] := by
  unfold reachL; rw [if_neg h]

/-- What holds in a pass of Reachable that began with o0, ahead of row i, where the edges of P are seen. -/
structure RP (G : List (List Int)) (a : Int) (o0 o : List Bool) (ch : Bool) (P : Int → Int → Prop) : Prop where
  len : o.length = G.length
  sound : ∀ x, metOf o x = true → Grf.Reach (adj G) a x
  root : metOf o a = true
  grow : ∀ x, metOf o0 x = true → metOf o x = true
  yes : ch = true → Grf.cnt (nodes G) (metOf o) < Grf.cnt (nodes G) (metOf o0)
  no : ch = false → o = o0
  seen : ∀ x y, P x y → metOf o x = true → ch = false → metOf o y = true
theorem reach_l2 {G : List (List Int)} (hG : okG G) (hs : short G) {a : Int} (o0 : List Bool) (i : Nat) (hi : i < G.length) (P : Int → Int → Prop) (r : List Bool)
    (hK : ∀ o ch, RP G a o0 o ch (fun x y => P x y ∨ (x = i ∧ y ∈ G[i])) → Ev (fun k => burnishref06_Reachable.l1 k o ch G (G.length : Int) ((i + 1 : Nat) : Int) G) r) :
    ∀ (d j : Nat) (o : List Bool) (ch : Bool), j + d = G[i].length → RP G a o0 o ch (fun x y => P x y ∨ (x = i ∧ y ∈ G[i].take j)) →
      Ev (fun k => burnishref06_Reachable.l2 k o ch (i : Int) G (G.length : Int) (i : Int) G[i] (G[i].length : Int) (j : Int) G) r := by
  have hr := hs.2 _ (List.getElem_mem hi)
  have hin : isNode G (i : Int) := by unfold isNode; omega
  intro d
  induction d with
  | zero =>
    intro j o ch hj h
    rw [List.take_of_length_le (by omega)] at h
    refine Ev.suc (fun k => ?_) (hK o ch h)
    simp only [burnishref06_Reachable.l2]
    rw [if_neg (by omega), w64 i G.length hi hs.1]
  | succ d ih =>
    intro j o ch hj h
    have hlt : j < G[i].length := by omega
    have hmn : isNode G G[i][j] := hG.row (List.getElem_mem hi) (List.getElem_mem hlt)
    have hmn' := hmn
    unfold isNode at hmn
    have hol := h.len
    have hedge : G[i][j] ∈ adj G (i : Int) := by rw [adj_nat G i hi]; exact List.getElem_mem hlt
    have hsplit : ∀ x y, (P x y ∨ (x = (i : Int) ∧ y ∈ G[i].take (j + 1))) → (P x y ∨ (x = (i : Int) ∧ y ∈ G[i].take j)) ∨ (x = (i : Int) ∧ y = G[i][j]) := by
      intro x y h1
      rw [List.take_succ_eq_append_getElem hlt, List.mem_append, List.mem_singleton] at h1
      rcases h1 with h1 | ⟨h1, h2 | h2⟩
      · exact .inl (.inl h1)
      · exact .inl (.inr ⟨h1, h2⟩)
      · exact .inr ⟨h1, h2⟩
    have h0 : rdOf false o (i : Int) = metOf o (i : Int) := metOf_rd o _ (by omega)
    have h1 : rdOf false o G[i][j] = metOf o G[i][j] := metOf_rd o _ hmn.1
    cases ei : metOf o (i : Int) with
    | false =>
      refine Ev.suc (fun k => ?_) (ih (j + 1) o ch (by omega) ⟨h.len, h.sound, h.root, h.grow, h.yes, h.no, fun x y hp hx hc => ?_⟩)
      · simp only [burnishref06_Reachable.l2]
        rw [if_pos (by omega), if_pos (by omega), if_pos (by omega), if_pos (by omega), if_pos (by omega), h0, ei, if_neg (by simp), w64 j _ hlt hr]
      · rcases hsplit x y hp with hp | ⟨rfl, rfl⟩
        · exact h.seen x y hp hx hc
        · rw [ei] at hx; cases hx
    | true =>
      cases ej : metOf o G[i][j] with
      | true =>
        refine Ev.suc (fun k => ?_) (ih (j + 1) o ch (by omega) ⟨h.len, h.sound, h.root, h.grow, h.yes, h.no, fun x y hp hx hc => ?_⟩)
        · simp only [burnishref06_Reachable.l2]
          rw [if_pos (by omega), if_pos (by omega), if_pos (by omega), if_pos (by omega), if_pos (by omega), h0, ei, if_pos rfl, rd_get _ j hlt, if_pos (by omega), if_pos (by omega), h1, ej, if_pos rfl, w64 j _ hlt hr]
        · rcases hsplit x y hp with hp | ⟨rfl, rfl⟩
          · exact h.seen x y hp hx hc
          · exact ej
      | false =>
        have hset := metOf_set o G[i][j] hmn.1 (by omega)
        have hc1 := Grf.cnt_mark ((mem_nodes G _).2 hmn') ej
        have hc0 : Grf.cnt (nodes G) (metOf o) ≤ Grf.cnt (nodes G) (metOf o0) := Grf.cnt_mono h.grow
        refine Ev.suc (fun k => ?_) (ih (j + 1) (o.set (G[i][j]).toNat true) true (by omega) ⟨by rw [List.length_set]; exact h.len, fun x hx => ?_, ?_, fun x hx => ?_, fun _ => ?_, fun hc => (by cases hc), fun x y hp hx hc => (by cases hc)⟩)
        · simp only [burnishref06_Reachable.l2]
          rw [if_pos (by omega), if_pos (by omega), if_pos (by omega), if_pos (by omega), if_pos (by omega), h0, ei, if_pos rfl, rd_get _ j hlt, if_pos (by omega), if_pos (by omega), h1, ej, if_neg (by simp), w64 j _ hlt hr]
        · rw [hset, Grf.mark_iff] at hx
          rcases hx with rfl | hx
          · exact .tail (h.sound _ ei) hedge
          · exact h.sound x hx
        · rw [hset, Grf.mark_iff]; exact .inr h.root
        · rw [hset, Grf.mark_iff]; exact .inr (h.grow x hx)
        · rw [hset]; omega
theorem reach_l1 {G : List (List Int)} (hG : okG G) (hs : short G) {a : Int} (o0 : List Bool) (r : List Bool)
    (hK : ∀ o ch, RP G a o0 o ch (fun x y => y ∈ adj G x) → Ev (fun k => burnishref06_Reachable.l0 k o ch G) r) :
    ∀ (d i : Nat) (o : List Bool) (ch : Bool), i + d = G.length → RP G a o0 o ch (fun x y => x < i ∧ y ∈ adj G x) → Ev (fun k => burnishref06_Reachable.l1 k o ch G (G.length : Int) (i : Int) G) r := by
  intro d
  induction d with
  | zero =>
    intro i o ch hi h
    refine Ev.suc (fun k => ?_) (hK o ch ⟨h.len, h.sound, h.root, h.grow, h.yes, h.no, fun x y hp hx hc => h.seen x y ⟨?_, hp⟩ hx hc⟩)
    · simp only [burnishref06_Reachable.l1]
      rw [if_neg (by omega)]
    · have := metOf_lt hx
      rw [h.len] at this
      omega
  | succ d ih =>
    intro i o ch hi h
    have hlt : i < G.length := by omega
    refine Ev.suc (h := fun k => burnishref06_Reachable.l2 k o ch (i : Int) G (G.length : Int) (i : Int) G[i] (G[i].length : Int) ((0 : Nat) : Int) G) (fun k => ?_) (reach_l2 hG hs (a := a) o0 i hlt (fun x y => x < i ∧ y ∈ adj G x) r (fun o' ch' h' => ih (i + 1) o' ch' (by omega) ⟨h'.len, h'.sound, h'.root, h'.grow, h'.yes, h'.no, fun x y hp hx hc => h'.seen x y ?_ hx hc⟩) G[i].length 0 o ch (by omega) ⟨h.len, h.sound, h.root, h.grow, h.yes, h.no, fun x y hp hx hc => h.seen x y ?_ hx hc⟩)
    · simp only [burnishref06_Reachable.l1]
      rw [if_pos (by omega), if_pos (by omega), if_pos (by omega), rd1_get G i hlt]
      rfl
    · by_cases e : x = (i : Int)
      · refine .inr ⟨e, ?_⟩
        have := hp.2
        rw [e, adj_nat G i hlt] at this
        exact this
      · exact .inl ⟨by have := hp.1; omega, hp.2⟩
    · rcases hp with hp | ⟨_, hp⟩
      · exact hp
      · simp at hp
theorem reach_l0 {G : List (List Int)} (hG : okG G) (hs : short G) {a : Int} (ha : isNode G a) : ∀ (m : Nat) (o : List Bool), Grf.cnt (nodes G) (metOf o) ≤ m → o.length = G.length → (∀ x, metOf o x = true → Grf.Reach (adj G) a x) → metOf o a = true →
    Ev (fun k => burnishref06_Reachable.l0 k o true G) (reachL G a) := by
  intro m
  induction m with
  | zero =>
    intro o hc hl hsd hrt
    refine Ev.suc (h := fun k => burnishref06_Reachable.l1 k o false G (G.length : Int) ((0 : Nat) : Int) G) (fun k => ?_) (reach_l1 hG hs (a := a) o (reachL G a) (fun o' ch' h => ?_) G.length 0 o false (by omega) ⟨hl, hsd, hrt, fun _ h => h, fun h => (by cases h), fun _ => rfl, fun x y hp hx _ => ?_⟩)
    · simp only [burnishref06_Reachable.l0]; rfl
    · cases ch' with
      | true => have := h.yes rfl; omega
      | false =>
        refine Ev.suc (h := fun _ => some (reachL G a)) (fun k => ?_) (Ev.ret _)
        simp only [burnishref06_Reachable.l0]
        rw [if_neg (by simp), reachL_eq ⟨hG, ha⟩ h.len h.sound h.root (fun x hx y hy => h.seen x y hy hx rfl)]
    · have := (metOf_lt hx).1
      have := hp.1
      omega
  | succ m ih =>
    intro o hc hl hsd hrt
    refine Ev.suc (h := fun k => burnishref06_Reachable.l1 k o false G (G.length : Int) ((0 : Nat) : Int) G) (fun k => ?_) (reach_l1 hG hs (a := a) o (reachL G a) (fun o' ch' h => ?_) G.length 0 o false (by omega) ⟨hl, hsd, hrt, fun _ h => h, fun h => (by cases h), fun _ => rfl, fun x y hp hx _ => ?_⟩)
    · simp only [burnishref06_Reachable.l0]; rfl
    · cases ch' with
      | true => exact ih o' (by have := h.yes rfl; omega) h.len h.sound h.root
      | false =>
        refine Ev.suc (h := fun _ => some (reachL G a)) (fun k => ?_) (Ev.ret _)
        simp only [burnishref06_Reachable.l0]
        rw [if_neg (by simp), reachL_eq ⟨hG, ha⟩ h.len h.sound h.root (fun x hx y hy => h.seen x y hy hx rfl)]
    · have := (metOf_lt hx).1
      have := hp.1
      omega
theorem rreach_f (G : List (List Int)) (hs : short G) (a : Int) : Ev (fun k => burnishref06_Reachable.f k G a) (reachL G a) := by
  unfold burnishref06_Reachable.f
  refine Ev.bind (ok_f G hs a) ?_
  by_cases h : chk G = 0 ∧ isNode G a
  · have hn := h.2
    unfold isNode at hn
    have hl := okG.len h.1
    have e : metOf ((List.replicate G.length false).set a.toNat true) = Grf.mark (fun _ => false) a := by
      rw [metOf_set _ a hn.1 (by simp; omega), metOf_false]
    have := reach_l0 h.1 hs h.2 _ ((List.replicate G.length false).set a.toNat true) (Nat.le_refl _) (by simp) (fun x hx => ?_) ?_
    · refine Ev.of (fun k => ?_) this
      rw [if_pos (by simpa using h), if_pos (by omega), if_pos (by omega), Option.bind_some, Int.toNat_natCast, if_pos (by omega), if_pos (by simp; omega)]
    · rw [e, Grf.mark_iff] at hx
      rcases hx with rfl | hx
      · exact .refl _
      · cases hx
    · rw [e, Grf.mark_iff]; exact .inl rfl
  · rw [reachL_nil h]
    exact Ev.of (fun k => by rw [if_neg (by simpa using h)]) (Ev.ret _)
end Go.Proofs.Ytjkclhpibielfaa
