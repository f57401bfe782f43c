/- Reverse and Preds in plain lists. -/
import Derived.Test.YtjkclhpibielfaaDigD
set_option linter.unusedVariables false
set_option linter.unusedSimpArgs false
namespace Go.Proofs.Ytjkclhpibielfaa
open Go.RowKit Go.Proofs.YtjkclhpibielfaaW.PrintWords Go.Proofs.Ytjkclhpibielfaa.PDigraphTells

/-- The sources of the edges to b from the rows below i. -/
def rvU (G : List (List Int)) (i : Nat) (b : Int) : List Int := (List.range i).flatMap fun a => ((G.getD a []).filter (· == b)).map fun _ => (a : Int)
theorem rvU_succ (G : List (List Int)) (i : Nat) (h : i < G.length) (b : Int) : rvU G (i + 1) b = rvU G i b ++ (G[i].filter (· == b)).map fun _ => (i : Int) := by
  unfold rvU
  rw [List.range_succ, List.flatMap_append, List.flatMap_singleton]
  simp [h]
theorem rvU_lt (G : List (List Int)) (i : Nat) (b : Int) : ∀ x ∈ rvU G i b, 0 ≤ x ∧ x < i := by
  intro x hx
  unfold rvU at hx
  rw [List.mem_flatMap] at hx
  obtain ⟨a, ha, hx⟩ := hx
  obtain ⟨_, _, rfl⟩ := List.mem_map.1 hx
  rw [List.mem_range] at ha
  omega
def revL (G : List (List Int)) : List (List Int) := if chk G = 0 then (nodes G).map (rvU G G.length) else []
theorem edges_take (G : List (List Int)) : ∀ i, i ≤ G.length → ∀ b, (rvU G i b).length ≤ edges (G.take i) := by
  intro i
  induction i with
  | zero => intro _ b; simp [rvU]
  | succ i ih =>
    intro hi b
    rw [rvU_succ G i (by omega) b, List.length_append, List.length_map, List.take_succ_eq_append_getElem (by omega)]
    have h1 := ih (by omega) b
    have h2 : (G[i].filter (· == b)).length ≤ G[i].length := List.length_filter_le _ _
    simp only [edges, List.map_append, List.sum_append, List.map_cons, List.map_nil, List.sum_cons, List.sum_nil] at h1 ⊢
    omega
theorem edges_split (G : List (List Int)) (i : Nat) : edges (G.take i) + edges (G.drop i) = edges G := by
  unfold edges
  rw [← List.sum_append, ← List.map_append, List.take_append_drop]
theorem edges_row (G : List (List Int)) (i : Nat) (h : i < G.length) : edges (G.take i) + G[i].length ≤ edges G := by
  rw [← edges_split G i, List.drop_eq_getElem_cons h]
  simp only [edges, List.map_cons, List.sum_cons]
  omega
theorem rd1_set (o : List (List Int)) (s : Int) (h0 : 0 ≤ s) (h : s < o.length) (v : List Int) (b : Int) (hb : 0 ≤ b) : rd_L1 (o.set s.toNat v) b = if b = s then v else rd_L1 o b := by
  unfold rd_L1
  by_cases e : b = s
  · subst e
    have : b.toNat < o.length := by omega
    rw [if_pos rfl]; simp [this]
  · rw [if_neg e]
    have : s.toNat ≠ b.toNat := by omega
    simp [List.getD_eq_getElem?_getD, List.getElem?_set_ne this]
theorem tab_ext {o : List (List Int)} {G : List (List Int)} {f : Int → List Int} (hl : o.length = G.length) (h : ∀ b, isNode G b → rd_L1 o b = f b) : o = (nodes G).map f := by
  refine List.ext_getElem (by rw [hl, List.length_map, nodes_len]) fun i h1 h2 => ?_
  have h3 := h (i : Int) (by unfold isNode; omega)
  rw [rd1_get o i h1] at h3
  rw [h3, List.getElem_map]
  unfold nodes
  rw [List.getElem_map, List.getElem_range]
/-- The rows of the reversed graph ahead of entry j of row i. -/
structure RV (G : List (List Int)) (o : List (List Int)) (i j : Nat) : Prop where
  len : o.length = G.length
  at_ : ∀ b, isNode G b → rd_L1 o b = rvU G i b ++ (((G.getD i []).take j).filter (· == b)).map fun _ => (i : Int)
theorem filter_snoc (l : List Int) (j : Nat) (h : j < l.length) (b : Int) : (l.take (j + 1)).filter (· == b) = (l.take j).filter (· == b) ++ if l[j] = b then [l[j]] else [] := by
  rw [List.take_succ_eq_append_getElem h, List.filter_append]
  by_cases e : l[j] = b
  · rw [if_pos e]; simp [e]
  · rw [if_neg e]; simp [e]
theorem RV.step {G : List (List Int)} {o : List (List Int)} {i j : Nat} (hG : okG G) (h : RV G o i j) (hi : i < G.length) (hj : j < G[i].length) : RV G (o.set (G[i][j]).toNat (rd_L1 o G[i][j] ++ [(i : Int)])) i (j + 1) := by
  have hn : isNode G G[i][j] := hG.row (List.getElem_mem hi) (List.getElem_mem hj)
  have hn' := hn
  unfold isNode at hn
  have eg : G.getD i [] = G[i] := by simp [hi]
  refine ⟨by rw [List.length_set]; exact h.len, fun b hb => ?_⟩
  rw [rd1_set o _ hn.1 (by rw [h.len]; exact hn.2) _ b hb.1, eg, filter_snoc _ _ hj]
  have h1 := h.at_ b hb
  rw [eg] at h1
  by_cases e : b = G[i][j]
  · rw [if_pos e, if_pos e.symm, ← e, h1, List.map_append, List.append_assoc]
    rfl
  · rw [if_neg e, if_neg (fun h => e h.symm), h1, List.append_nil]
theorem RV.row {G : List (List Int)} {o : List (List Int)} {i : Nat} (hi : i < G.length) (h : RV G o i (G[i].length)) : RV G o (i + 1) 0 := by
  refine ⟨h.len, fun b hb => ?_⟩
  have h1 := h.at_ b hb
  have eg : G.getD i [] = G[i] := by simp [hi]
  rw [eg, List.take_length, ← rvU_succ G i hi b] at h1
  rw [h1]
  simp
theorem RV.small {G : List (List Int)} {o : List (List Int)} {i j : Nat} (h : RV G o i j) (hi : i < G.length) (hE : edges G < 17592186044416) {b : Int} (hb : isNode G b) (hj : j < G[i].length) : (rd_L1 o b).length < 17592186044416 := by
  rw [h.at_ b hb, List.length_append, List.length_map]
  have h1 := edges_take G i (by omega) b
  have h2 := edges_row G i hi
  have eg : G.getD i [] = G[i] := by simp [hi]
  rw [eg]
  have h3 : ((G[i].take j).filter (· == b)).length ≤ (G[i].take j).length := List.length_filter_le _ _
  rw [List.length_take] at h3
  omega
theorem rev_l1 {G : List (List Int)} (hG : okG G) (hs : short G) (hE : edges G < 17592186044416) (i : Nat) (hi : i < G.length) (r : List (List Int))
    (hK : ∀ o, RV G o (i + 1) 0 → Ev (fun k => digraph_Reverse.l0 k G (G.length : Int) ((i + 1 : Nat) : Int) o) r) :
    ∀ (e j : Nat) (o : List (List Int)), j + e = G[i].length → RV G o i j → Ev (fun k => digraph_Reverse.l1 k (i : Int) G (G.length : Int) (i : Int) G[i] (G[i].length : Int) (j : Int) o) r := by
  have hr := hs.2 _ (List.getElem_mem hi)
  intro e
  induction e with
  | zero =>
    intro j o hj h
    obtain rfl : j = G[i].length := by omega
    refine Ev.suc (fun k => ?_) (hK o (h.row hi))
    simp only [digraph_Reverse.l1]
    rw [if_neg (by omega), w64 i G.length hi hs.1]
  | succ e ih =>
    intro j o hj h
    have hlt : j < G[i].length := by omega
    have hmn : isNode G G[i][j] := hG.row (List.getElem_mem hi) (List.getElem_mem hlt)
    have hsm := h.small hi hE hmn hlt
    unfold isNode at hmn
    refine Ev.suc (fun k => ?_) (ih (j + 1) _ (by omega) (h.step hG hi hlt))
    simp only [digraph_Reverse.l1]
    rw [if_pos (by omega), if_pos (by omega), if_pos (by omega), rd_get _ j hlt, if_pos hmn.1, if_pos (by rw [h.len]; exact hmn.2), if_pos hsm, w64 j _ hlt hr]
theorem rev_l0 {G : List (List Int)} (hG : okG G) (hs : short G) (hE : edges G < 17592186044416) : ∀ (e i : Nat) (o : List (List Int)), i + e = G.length → RV G o i 0 → Ev (fun k => digraph_Reverse.l0 k G (G.length : Int) (i : Int) o) (revL G) := by
  intro e
  induction e with
  | zero =>
    intro i o hi h
    obtain rfl : i = G.length := by omega
    have : revL G = o := by
      unfold revL
      have hG' : chk G = 0 := hG
      rw [if_pos hG', tab_ext h.len (f := rvU G G.length) (fun b hb => by rw [h.at_ b hb]; simp)]
    rw [this]
    refine Ev.suc (fun k => ?_) (Ev.ret o)
    simp only [digraph_Reverse.l0]
    rw [if_neg (by omega)]
  | succ e ih =>
    intro i o hi h
    have hlt : i < G.length := by omega
    refine Ev.suc (fun k => ?_) (rev_l1 hG hs hE i hlt (revL G) (fun o' h' => ih (i + 1) o' (by omega) h') G[i].length 0 o (by omega) h)
    simp only [digraph_Reverse.l0]
    rw [if_pos (by omega), if_pos (by omega), if_pos (by omega), rd1_get G i hlt]
    rfl
theorem RV.start (G : List (List Int)) : RV G (List.replicate G.length []) 0 0 := by
  refine ⟨by simp, fun b hb => ?_⟩
  unfold isNode at hb
  have : b.toNat < G.length := by omega
  simp [rd_L1, rvU, this]
theorem rev_f (G : List (List Int)) (hs : short G) (hE : chk G = 0 → edges G < 17592186044416) : Ev (fun k => digraph_Reverse.f k G) (revL G) := by
  unfold digraph_Reverse.f
  refine Ev.bind (chk_f G hs) ?_
  by_cases h : chk G = 0
  · have hl := okG.len h
    refine Ev.of (fun k => ?_) (rev_l0 h hs (hE h) G.length 0 _ (by omega) (RV.start G))
    rw [if_pos h, if_pos (by omega), if_pos (by omega), Int.toNat_natCast]
    rfl
  · unfold revL
    rw [if_neg h]
    exact Ev.of (fun k => by rw [if_neg h]) (Ev.ret _)
def pvU (G : List (List Int)) (i : Nat) (b : Int) : List Int := ((List.range i).filter fun a => decide (b ∈ G.getD a [])).map fun (a : Nat) => (a : Int)
theorem pvU_succ (G : List (List Int)) (i : Nat) (h : i < G.length) (b : Int) : pvU G (i + 1) b = pvU G i b ++ if b ∈ G[i] then [(i : Int)] else [] := by
  unfold pvU
  rw [List.range_succ, List.filter_append, List.map_append]
  have eg : G.getD i [] = G[i] := by simp [h]
  by_cases e : b ∈ G[i]
  · rw [if_pos e]
    have : ([i].filter fun a => decide (b ∈ G.getD a [])) = [i] := by rw [List.filter_cons_of_pos (by rw [eg]; simpa using e)]; rfl
    rw [this]; rfl
  · rw [if_neg e]
    have : ([i].filter fun a => decide (b ∈ G.getD a [])) = [] := by rw [List.filter_cons_of_neg (by rw [eg]; simpa using e)]; rfl
    rw [this]; rfl
theorem pvU_lt (G : List (List Int)) (i : Nat) (b : Int) : ∀ x ∈ pvU G i b, 0 ≤ x ∧ x < i := by
  intro x hx
  unfold pvU at hx
  obtain ⟨a, ha, rfl⟩ := List.mem_map.1 hx
  have := List.mem_range.1 (List.mem_filter.1 ha).1
  omega
theorem pvU_len (G : List (List Int)) (i : Nat) (b : Int) : (pvU G i b).length ≤ i := by
  unfold pvU
  rw [List.length_map]
  have : ((List.range i).filter fun a => decide (b ∈ G.getD a [])).length ≤ (List.range i).length := List.length_filter_le _ _
  rw [List.length_range] at this
  exact this
theorem mem_pvU (G : List (List Int)) (b : Int) (x : Int) : x ∈ pvU G G.length b ↔ isNode G x ∧ b ∈ adj G x := by
  unfold pvU
  rw [List.mem_map]
  constructor
  · rintro ⟨a, ha, rfl⟩
    rw [List.mem_filter, List.mem_range] at ha
    refine ⟨by unfold isNode; omega, ?_⟩
    rw [adj_nat G a ha.1]
    have h2 := ha.2
    simp [ha.1] at h2
    exact h2
  · rintro ⟨h1, h2⟩
    obtain ⟨hi, e⟩ := adj_eq h1
    unfold isNode at h1
    refine ⟨x.toNat, ?_, by omega⟩
    rw [List.mem_filter, List.mem_range]
    refine ⟨hi, ?_⟩
    rw [e] at h2
    simp [hi, h2]
def predL (G : List (List Int)) : List (List Int) := if chk G = 0 then (nodes G).map (pvU G G.length) else []
structure PV (G : List (List Int)) (o : List (List Int)) (i j : Nat) : Prop where
  len : o.length = G.length
  at_ : ∀ b, isNode G b → rd_L1 o b = pvU G i b ++ if b ∈ (G.getD i []).take j then [(i : Int)] else []
theorem PV.row {G : List (List Int)} {o : List (List Int)} {i : Nat} (hi : i < G.length) (h : PV G o i (G[i].length)) : PV G o (i + 1) 0 := by
  refine ⟨h.len, fun b hb => ?_⟩
  have h1 := h.at_ b hb
  have eg : G.getD i [] = G[i] := by simp [hi]
  rw [eg, List.take_length, ← pvU_succ G i hi b] at h1
  rw [h1]
  simp
theorem PV.old {G : List (List Int)} {o : List (List Int)} {i j : Nat} (h : PV G o i j) (hi : i < G.length) (hj : j < G[i].length) (hin : G[i][j] ∈ G[i].take j) : PV G o i (j + 1) := by
  refine ⟨h.len, fun b hb => ?_⟩
  have h1 := h.at_ b hb
  have eg : G.getD i [] = G[i] := by simp [hi]
  rw [eg] at h1 ⊢
  rw [h1, List.take_succ_eq_append_getElem hj]
  by_cases e : b ∈ G[i].take j
  · rw [if_pos e, if_pos (List.mem_append.2 (.inl e))]
  · rw [if_neg e, if_neg (fun h2 => by
      rcases List.mem_append.1 h2 with h3 | h3
      · exact e h3
      · rw [List.mem_singleton] at h3; exact e (by rw [h3]; exact hin))]
theorem PV.new {G : List (List Int)} {o : List (List Int)} {i j : Nat} (hG : okG G) (h : PV G o i j) (hi : i < G.length) (hj : j < G[i].length) (hin : G[i][j] ∉ G[i].take j) : PV G (o.set (G[i][j]).toNat (rd_L1 o G[i][j] ++ [(i : Int)])) i (j + 1) := by
  have hn : isNode G G[i][j] := hG.row (List.getElem_mem hi) (List.getElem_mem hj)
  have hn' := hn
  unfold isNode at hn
  have eg : G.getD i [] = G[i] := by simp [hi]
  refine ⟨by rw [List.length_set]; exact h.len, fun b hb => ?_⟩
  rw [rd1_set o _ hn.1 (by rw [h.len]; exact hn.2) _ b hb.1, eg, List.take_succ_eq_append_getElem hj]
  have h1 := h.at_ b hb
  rw [eg] at h1
  by_cases e : b = G[i][j]
  · subst e
    rw [if_pos rfl, if_pos (List.mem_append.2 (.inr (List.mem_singleton.2 rfl))), h1, if_neg hin, List.append_nil]
  · rw [if_neg e, h1]
    by_cases e2 : b ∈ G[i].take j
    · rw [if_pos e2, if_pos (List.mem_append.2 (.inl e2))]
    · rw [if_neg e2, if_neg (fun h2 => by
        rcases List.mem_append.1 h2 with h3 | h3
        · exact e2 h3
        · rw [List.mem_singleton] at h3; exact e h3)]
theorem PV.small {G : List (List Int)} {o : List (List Int)} {i j : Nat} (h : PV G o i j) {b : Int} (hb : isNode G b) : (rd_L1 o b).length ≤ i + 1 := by
  rw [h.at_ b hb, List.length_append]
  have := pvU_len G i b
  split <;> simp <;> omega
theorem PV.last {G : List (List Int)} {o : List (List Int)} {i j : Nat} (h : PV G o i j) (hi : i < G.length) {b : Int} (hb : isNode G b) (hpos : 0 < (rd_L1 o b).length) : rd (rd_L1 o b) (((rd_L1 o b).length - 1 : Nat) : Int) = i ↔ b ∈ G[i].take j := by
  have h1 := h.at_ b hb
  have eg : G.getD i [] = G[i] := by simp [hi]
  rw [eg] at h1
  obtain ⟨l, hl⟩ : ∃ l, rd_L1 o b = l := ⟨_, rfl⟩
  rw [hl] at h1 hpos ⊢
  rw [rd_get l _ (by omega)]
  by_cases e : b ∈ G[i].take j
  · rw [if_pos e] at h1
    subst h1
    simp [e]
  · rw [if_neg e, List.append_nil] at h1
    have := pvU_lt G i b l[l.length - 1] (by rw [← h1]; exact List.getElem_mem _)
    constructor
    · intro h2; omega
    · intro h2; exact absurd h2 e
theorem pred_l1 {G : List (List Int)} (hG : okG G) (hs : short G) (i : Nat) (hi : i < G.length) (r : List (List Int))
    (hK : ∀ o, PV G o (i + 1) 0 → Ev (fun k => digraph_Preds.l0 k o G (G.length : Int) ((i + 1 : Nat) : Int)) r) :
    ∀ (e j : Nat) (o : List (List Int)), j + e = G[i].length → PV G o i j → Ev (fun k => digraph_Preds.l1 k o (i : Int) G (G.length : Int) (i : Int) G[i] (G[i].length : Int) (j : Int)) r := by
  have hr := hs.2 _ (List.getElem_mem hi)
  have hl := okG.len hG
  intro e
  induction e with
  | zero =>
    intro j o hj h
    obtain rfl : j = G[i].length := by omega
    refine Ev.suc (fun k => ?_) (hK o (h.row hi))
    simp only [digraph_Preds.l1]
    rw [if_neg (by omega), w64 i G.length hi hs.1]
  | succ e ih =>
    intro j o hj h
    have hlt : j < G[i].length := by omega
    have hmn : isNode G G[i][j] := hG.row (List.getElem_mem hi) (List.getElem_mem hlt)
    have hsm := h.small hmn
    have hlast := fun hp => h.last hi hmn hp
    have hmn' := hmn
    unfold isNode at hmn
    by_cases h0 : (rd_L1 o G[i][j]).length = 0
    · have hin : G[i][j] ∉ G[i].take j := fun hin => by
        have := h.at_ _ hmn'
        have eg : G.getD i [] = G[i] := by simp [hi]
        rw [eg, if_pos hin] at this
        rw [this] at h0
        simp at h0
      refine Ev.suc (fun k => ?_) (ih (j + 1) _ (by omega) (h.new hG hi hlt hin))
      simp only [digraph_Preds.l1]
      rw [if_pos (by omega), if_pos (by omega), if_pos (by omega), rd_get _ j hlt, if_pos hmn.1, if_pos (by rw [h.len]; exact hmn.2), if_pos (by omega), if_pos (by omega), w64 j _ hlt hr]
    · have ew : wrap64 (((rd_L1 o G[i][j]).length : Int) - 1) = (((rd_L1 o G[i][j]).length - 1 : Nat) : Int) := by unfold wrap64; omega
      by_cases hin : G[i][j] ∈ G[i].take j
      · refine Ev.suc (fun k => ?_) (ih (j + 1) _ (by omega) (h.old hi hlt hin))
        simp only [digraph_Preds.l1]
        rw [if_pos (by omega), if_pos (by omega), if_pos (by omega), rd_get _ j hlt, if_pos hmn.1, if_pos (by rw [h.len]; exact hmn.2), if_neg (by omega), ew, if_pos (by omega), if_pos (by omega), if_pos ((hlast (by omega)).2 hin), w64 j _ hlt hr]
      · refine Ev.suc (fun k => ?_) (ih (j + 1) _ (by omega) (h.new hG hi hlt hin))
        simp only [digraph_Preds.l1]
        rw [if_pos (by omega), if_pos (by omega), if_pos (by omega), rd_get _ j hlt, if_pos hmn.1, if_pos (by rw [h.len]; exact hmn.2), if_neg (by omega), ew, if_pos (by omega), if_pos (by omega), if_neg (fun h2 => hin ((hlast (by omega)).1 h2)), if_pos (by omega), w64 j _ hlt hr]
theorem pred_l0 {G : List (List Int)} (hG : okG G) (hs : short G) : ∀ (e i : Nat) (o : List (List Int)), i + e = G.length → PV G o i 0 → Ev (fun k => digraph_Preds.l0 k o G (G.length : Int) (i : Int)) (predL G) := by
  intro e
  induction e with
  | zero =>
    intro i o hi h
    obtain rfl : i = G.length := by omega
    have : predL G = o := by
      unfold predL
      have hG' : chk G = 0 := hG
      rw [if_pos hG', tab_ext h.len (f := pvU G G.length) (fun b hb => by rw [h.at_ b hb]; simp)]
    rw [this]
    refine Ev.suc (fun k => ?_) (Ev.ret o)
    simp only [digraph_Preds.l0]
    rw [if_neg (by omega)]
  | succ e ih =>
    intro i o hi h
    have hlt : i < G.length := by omega
    refine Ev.suc (fun k => ?_) (pred_l1 hG hs i hlt (predL G) (fun o' h' => ih (i + 1) o' (by omega) h') G[i].length 0 o (by omega) h)
    simp only [digraph_Preds.l0]
    rw [if_pos (by omega), if_pos (by omega), if_pos (by omega), rd1_get G i hlt]
    rfl
theorem pred_f (G : List (List Int)) (hs : short G) : Ev (fun k => digraph_Preds.f k G) (predL G) := by
  unfold digraph_Preds.f
  refine Ev.bind (chk_f G hs) ?_
  by_cases h : chk G = 0
  · have hl := okG.len h
    have hst : PV G (List.replicate G.length []) 0 0 := by
      refine ⟨by simp, fun b hb => ?_⟩
      unfold isNode at hb
      have : b.toNat < G.length := by omega
      simp [rd_L1, pvU, this]
    refine Ev.of (fun k => ?_) (pred_l0 h hs G.length 0 _ (by omega) hst)
    rw [if_pos h, if_pos (by omega), if_pos (by omega), Int.toNat_natCast]
    rfl
  · unfold predL
    rw [if_neg h]
    exact Ev.of (fun k => by rw [if_neg h]) (Ev.ret _)
/-! ### The reference's Preds: each row of Reverse without repetitions. -/
def once : List Int → List Int → List Int
  | acc, [] => acc
  | acc, a :: l => once (if acc.length = 0 ∨ acc.getD (acc.length - 1) 0 ≠ a then acc ++ [a] else acc) l
theorem once_append : ∀ (acc l m : List Int), once acc (l ++ m) = once (once acc l) m
  | acc, [], m => rfl
  | acc, a :: l, m => by rw [List.cons_append, once, once, once_append]
theorem once_same (i : Int) : ∀ (k : Nat) (acc : List Int), once (acc ++ [i]) (List.replicate k i) = acc ++ [i]
  | 0, acc => rfl
  | k + 1, acc => by
    rw [List.replicate_succ, once, if_neg]
    · exact once_same i k acc
    · intro h
      rcases h with h | h
      · simp at h
      · simp at h
theorem once_rvU (G : List (List Int)) (b : Int) : ∀ i, i ≤ G.length → once [] (rvU G i b) = pvU G i b := by
  intro i
  induction i with
  | zero => intro _; rfl
  | succ i ih =>
    intro hi
    rw [rvU_succ G i (by omega) b, pvU_succ G i (by omega) b, once_append, ih (by omega)]
    have e1 : (G[i].filter (· == b)).map (fun _ => (i : Int)) = List.replicate (G[i].filter (· == b)).length (i : Int) := by
      rw [List.eq_replicate_iff]; simp
    rw [e1]
    by_cases hm : b ∈ G[i]
    · rw [if_pos hm]
      obtain ⟨k, hk⟩ : ∃ k, (G[i].filter (· == b)).length = k + 1 := by
        have : 0 < (G[i].filter (· == b)).length := List.length_pos_of_mem (List.mem_filter.2 ⟨hm, by simp⟩)
        exact ⟨(G[i].filter (· == b)).length - 1, by omega⟩
      rw [hk, List.replicate_succ, once, if_pos, once_same]
      by_cases h0 : (pvU G i b).length = 0
      · exact .inl h0
      · right
        have hlt : (pvU G i b).length - 1 < (pvU G i b).length := by omega
        have := pvU_lt G i b _ (List.getElem_mem hlt)
        simp only [List.getD_eq_getElem?_getD, List.getElem?_eq_getElem hlt, Option.getD_some]
        omega
    · rw [if_neg hm]
      have : (G[i].filter (· == b)).length = 0 := by
        rw [List.length_eq_zero_iff, List.filter_eq_nil_iff]
        intro x hx
        simpa using fun e : x = b => hm (by rw [← e]; exact hx)
      rw [this]
      simp [once]
end Go.Proofs.Ytjkclhpibielfaa
