import Derived.Test.YtbphjbfnnhfhlaaMPos16
section
/- The reference's PostDominators in plain lists. -/
set_option linter.unusedVariables false
set_option linter.unusedSimpArgs false
set_option linter.unusedSectionVars false
namespace Go.Proofs.Ytbphjbfnnhfhlaa
open Go.RowKit Go.Proofs.YtbphjbfnnhfhlaaW.PrintWords Go.Proofs.Ytbphjbfnnhfhlaa.PDigraphTells Mem

/-- Two graphs with the same edges have the same immediate dominators. -/
structure SameE (G H : List (List Int)) : Prop where
  len : G.length = H.length
  adj : ∀ x, isNode G x → ∀ y, y ∈ adj G x ↔ y ∈ adj H x
theorem SameE.symm {G H : List (List Int)} (h : SameE G H) : SameE H G := ⟨h.len.symm, fun x hx y => (h.adj x (by unfold isNode at hx ⊢; rw [h.len]; exact hx) y).symm⟩
theorem SameE.node {G H : List (List Int)} (h : SameE G H) {x : Int} : isNode G x ↔ isNode H x := by unfold isNode; rw [h.len]
theorem adj_nodes {G : List (List Int)} (h : chk G = 0) {x y : Int} (hx : isNode G x) (hy : y ∈ adj G x) : isNode G y := by
  unfold isNode at hx
  have e1 : x = (x.toNat : Int) := (Int.toNat_of_nonneg hx.1).symm
  unfold adj at hy
  rw [e1, rd1_get G x.toNat (by omega)] at hy
  exact (chk_ok.1 h).2 _ (List.getElem_mem (by omega)) y hy
theorem SameE.chk {G H : List (List Int)} (h : SameE G H) (hc : chk G = 0) : chk H = 0 := by
  refine chk_ok.2 ⟨by rw [← h.len]; exact (chk_ok.1 hc).1, fun l hl s hs => ?_⟩
  obtain ⟨i, hi, rfl⟩ := List.getElem_of_mem hl
  have hin : isNode G (i : Int) := ⟨by omega, by rw [h.len]; omega⟩
  refine h.node.1 (adj_nodes hc hin ((h.adj _ hin s).2 ?_))
  unfold Go.Proofs.Ytbphjbfnnhfhlaa.adj
  rw [rd1_get H i hi]; exact hs
theorem SameE.reach {G H : List (List Int)} (h : SameE G H) {e : Int} (hG : Go.Proofs.Ytbphjbfnnhfhlaa.chk G = 0 ∧ isNode G e) {x : Int} (hr : Grf.Reach (Go.Proofs.Ytbphjbfnnhfhlaa.adj G) e x) : Grf.Reach (Go.Proofs.Ytbphjbfnnhfhlaa.adj H) e x := by
  induction hr with
  | refl => exact .refl _
  | @tail b y hb hy ih => exact .tail ih ((h.adj b (reach_node hG hb) y).1 hy)
theorem SameE.ra {G H : List (List Int)} (h : SameE G H) {e a : Int} (hG : Go.Proofs.Ytbphjbfnnhfhlaa.chk G = 0 ∧ isNode G e) {x : Int} (hr : RA (Go.Proofs.Ytbphjbfnnhfhlaa.adj G) e a x) : RA (Go.Proofs.Ytbphjbfnnhfhlaa.adj H) e a x := by
  induction hr with
  | base h => exact .base h
  | @step p y hp hy hn ih => exact .step ih ((h.adj p (reach_node hG hp.reach) y).1 hy) hn
theorem SameE.bld {G H : List (List Int)} (h : SameE G H) {e : Int} {l : List Int} (hB : Bld G e l) : Bld H e l := by
  rcases hB with ⟨hk, hI⟩ | ⟨hk, hI⟩
  · have hk2 : Go.Proofs.Ytbphjbfnnhfhlaa.chk H = 0 ∧ isNode H e := ⟨h.chk hk.1, h.node.1 hk.2⟩
    have hr : ∀ x, Grf.Reach (Go.Proofs.Ytbphjbfnnhfhlaa.adj H) e x ↔ Grf.Reach (Go.Proofs.Ytbphjbfnnhfhlaa.adj G) e x := fun x => ⟨h.symm.reach hk2, h.reach hk⟩
    have hd : ∀ a x, domG H e a x ↔ domG G e a x := fun a x => ⟨fun q => ⟨(hr x).1 q.1, fun r => q.2 (h.ra hk r)⟩, fun q => ⟨(hr x).2 q.1, fun r => q.2 (h.symm.ra hk2 r)⟩⟩
    exact .inl ⟨hk2, by rw [hI.len, h.len], fun x hx hn => hI.out x (h.node.2 hx) (fun r => hn ((hr x).2 r)), hI.root, fun x hx hne => by
      obtain ⟨h1, h2, h3⟩ := hI.up x ((hr x).1 hx) hne
      exact ⟨(hd _ _).2 h1, h2, fun v hv hvx => (hd _ _).2 (h3 v ((hd _ _).1 hv) hvx)⟩⟩
  · exact .inr ⟨fun hk2 => hk ⟨h.symm.chk hk2.1, h.node.2 hk2.2⟩, hI⟩
/-- The reversed graph under way: rows ahead of v are done, of row v the first j. -/
structure Rv (G H : List (List Int)) (v : Nat) (row : List Int) : Prop where
  len : H.length = G.length + 1
  big : ∀ x, (rd_L1 H x).length ≤ 1000 * v + row.length
  edge : ∀ x, isNode G x → ∀ y, y ∈ rd_L1 H x ↔ (isNode G y ∧ y < v ∧ x ∈ adj G y) ∨ (y = v ∧ x ∈ row)
  sink : ∀ y, y ∈ rd_L1 H (G.length : Int) ↔ isNode G y ∧ y < v ∧ (adj G y).length = 0
theorem rd1_set2 (o : List (List Int)) (b : Int) (h0 : 0 ≤ b) (h : b < o.length) (v : List Int) (x : Int) : (rd_L1 (o.set b.toNat v) x).length ≤ max v.length (rd_L1 o x).length := by
  unfold rd_L1
  rw [List.getD_eq_getElem?_getD, List.getD_eq_getElem?_getD, List.getElem?_set]
  by_cases e : b.toNat = x.toNat
  · rw [if_pos e, if_pos (by omega)]
    simp only [Option.getD_some]
    omega
  · rw [if_neg e]; omega
theorem Rv.put {G H : List (List Int)} {v : Nat} {row : List Int} (h : Rv G H v row) {b : Int} (hb : isNode G b) : Rv G (H.set b.toNat (rd_L1 H b ++ [(v : Int)])) v (row ++ [b]) := by
  have hb' := hb
  unfold isNode at hb'
  have hbl : b < H.length := by rw [h.len]; omega
  refine ⟨by rw [List.length_set]; exact h.len, fun x => ?_, fun x hx y => ?_, fun y => ?_⟩
  · have h1 := rd1_set2 H b hb'.1 hbl (rd_L1 H b ++ [(v : Int)]) x
    have h2 := h.big b
    have h3 := h.big x
    rw [List.length_append, List.length_singleton] at h1 ⊢
    omega
  · rw [rd1_set H b hb'.1 hbl _ x hx.1]
    by_cases e : x = b
    · rw [if_pos e, List.mem_append, ← e, h.edge x hx y, List.mem_singleton, List.mem_append, List.mem_singleton]
      constructor
      · rintro ((h1 | h1) | h1)
        · exact .inl h1
        · exact .inr ⟨h1.1, .inl h1.2⟩
        · exact .inr ⟨h1, .inr (by first | rfl | exact e)⟩
      · rintro (h1 | ⟨h1, h2⟩)
        · exact .inl (.inl h1)
        · exact .inr h1
    · rw [if_neg e, h.edge x hx y, List.mem_append, List.mem_singleton]
      constructor
      · rintro (h1 | h1)
        · exact .inl h1
        · exact .inr ⟨h1.1, .inl h1.2⟩
      · rintro (h1 | ⟨h1, h2 | h2⟩)
        · exact .inl h1
        · exact .inr ⟨h1, h2⟩
        · exact absurd h2 e
  · rw [rd1_set H b hb'.1 hbl _ _ (by omega), if_neg (by omega)]
    exact h.sink y
section
variable {G : List (List Int)} (hc : chk G = 0) (hl : G.length ≤ 60) (hr : ∀ l ∈ G, l.length ≤ 200)
include hc hl hr
theorem Rv.fin {H : List (List Int)} (h : Rv G H G.length []) : SameE H (postG G) := by
  have hp : ∀ x, isNode G x → rd_L1 (postG G) x = pvU G G.length x := fun x hx => by
    unfold isNode at hx
    have e1 : x = (x.toNat : Int) := (Int.toNat_of_nonneg hx.1).symm
    have hlt : x.toNat < G.length := by omega
    unfold postG
    rw [e1, rd1_get _ x.toNat (by rw [List.length_append, pred_len hc]; omega), List.getElem_append_left (by rw [pred_len hc]; exact hlt)]
    unfold predL nodes
    simp only [if_pos hc]
    simp
  have hs : rd_L1 (postG G) (G.length : Int) = sinkU G G.length := by
    unfold postG
    rw [rd1_get _ G.length (by rw [List.length_append, pred_len hc]; simp), List.getElem_append_right (by rw [pred_len hc]; exact Nat.le_refl _)]
    simp [pred_len hc]
  refine ⟨by rw [h.len, postG_len hc], fun x hx y => ?_⟩
  unfold isNode at hx
  rw [h.len] at hx
  unfold Go.Proofs.Ytbphjbfnnhfhlaa.adj
  by_cases hxn : isNode G x
  · rw [hp x hxn, mem_pvU, h.edge x hxn y]
    constructor
    · rintro (h1 | h1)
      · exact ⟨h1.1, h1.2.2⟩
      · simp at h1
    · rintro ⟨h1, h2⟩
      exact .inl ⟨h1, h1.2, h2⟩
  · have e1 : x = (G.length : Int) := by unfold isNode at hxn; omega
    rw [e1, hs, h.sink y]
    unfold sinkU
    rw [List.mem_map]
    constructor
    · rintro ⟨h1, h2, h3⟩
      have e2 : y = (y.toNat : Int) := (Int.toNat_of_nonneg h1.1).symm
      exact ⟨y.toNat, List.mem_filter.2 ⟨List.mem_range.2 (by omega), by rw [← e2]; exact decide_eq_true h3⟩, e2.symm⟩
    · rintro ⟨j, hj, rfl⟩
      rw [List.mem_filter, List.mem_range] at hj
      exact ⟨⟨by omega, by omega⟩, by omega, of_decide_eq_true hj.2⟩
theorem rp_l1 {v : Nat} (hv : v < G.length) (hnext : ∀ H, Rv G H (v + 1) [] → ∃ r, Ev (fun q => burnishref08_PostDominators.l0 q (G.length : Int) ((v + 1 : Nat) : Int) G H) r ∧ Bld (postG G) (G.length : Int) r) :
    ∀ (d j : Nat) (H : List (List Int)), j + d = (rd_L1 G (v : Int)).length → Rv G H v ((rd_L1 G (v : Int)).take j) →
      ∃ r, Ev (fun q => burnishref08_PostDominators.l1 q (G.length : Int) (v : Int) (rd_L1 G (v : Int)) ((rd_L1 G (v : Int)).length : Int) (j : Int) G H) r ∧ Bld (postG G) (G.length : Int) r := by
  have hrowl : (rd_L1 G (v : Int)).length ≤ 200 := by rw [rd1_get G v hv]; exact hr _ (List.getElem_mem hv)
  have hvn : isNode G (v : Int) := ⟨by omega, by omega⟩
  have hadj : adj G (v : Int) = rd_L1 G (v : Int) := rfl
  have hrn : ∀ s ∈ rd_L1 G (v : Int), isNode G s := fun s hs => adj_nodes hc hvn hs
  obtain ⟨row, hrow⟩ : ∃ row, rd_L1 G (v : Int) = row := ⟨_, rfl⟩
  have hw := w64 v (v + 1) (by omega) (by omega)
  intro d
  induction d with
  | zero =>
    intro j H hj h
    rw [List.take_of_length_le (by omega)] at h
    have hstep : ∀ q, burnishref08_PostDominators.l1 (q + 1) (G.length : Int) (v : Int) (rd_L1 G (v : Int)) ((rd_L1 G (v : Int)).length : Int) (j : Int) G H = if ((rd_L1 G (v : Int)).length : Int) = 0 then burnishref08_PostDominators.l0 q (G.length : Int) ((v + 1 : Nat) : Int) G (H.set (G.length : Int).toNat (rd_L1 H (G.length : Int) ++ [(v : Int)])) else burnishref08_PostDominators.l0 q (G.length : Int) ((v + 1 : Nat) : Int) G H := by
      intro q
      have hb := h.big (G.length : Int)
      rw [burnishref08_PostDominators.l1, if_neg (by omega), if_pos (by omega), if_pos (by omega)]
      by_cases h0 : ((rd_L1 G (v : Int)).length : Int) = 0
      · rw [if_pos h0, if_pos h0, if_pos (by omega), if_pos (by rw [h.len]; omega), if_pos (by omega), hw]
      · rw [if_neg h0, if_neg h0, hw]
    by_cases h0 : ((rd_L1 G (v : Int)).length : Int) = 0
    · have he : rd_L1 G (v : Int) = [] := List.eq_nil_of_length_eq_zero (by omega)
      obtain ⟨r, h1, h2⟩ := hnext (H.set (G.length : Int).toNat (rd_L1 H (G.length : Int) ++ [(v : Int)])) (by
        refine ⟨by rw [List.length_set]; exact h.len, fun x => ?_, fun x hx y => ?_, fun y => ?_⟩
        · have h1 := rd1_set2 H (G.length : Int) (by omega) (by rw [h.len]; omega) (rd_L1 H (G.length : Int) ++ [(v : Int)]) x
          have h2 := h.big (G.length : Int)
          have h3 := h.big x
          rw [he] at h2 h3
          rw [List.length_append, List.length_singleton] at h1
          simp only [List.length_nil] at h2 h3 ⊢
          omega
        · have hx' := hx
          unfold isNode at hx'
          rw [rd1_set H _ (by omega) (by rw [h.len]; omega) _ x hx.1, if_neg (by omega), h.edge x hx y, he]
          constructor
          · rintro (h1 | h1)
            · exact .inl ⟨h1.1, by omega, h1.2.2⟩
            · simp at h1
          · rintro (⟨h1, h2, h3⟩ | h1)
            · by_cases e1 : y = (v : Int)
              · rw [e1, hadj, he] at h3; simp at h3
              · exact .inl ⟨h1, by omega, h3⟩
            · simp at h1
        · rw [rd1_set H _ (by omega) (by rw [h.len]; omega) _ _ (by omega), if_pos rfl, List.mem_append, List.mem_singleton, h.sink y]
          constructor
          · rintro (h1 | h1)
            · exact ⟨h1.1, by omega, h1.2.2⟩
            · rw [h1, hadj, he]; exact ⟨hvn, by omega, rfl⟩
          · rintro ⟨h1, h2, h3⟩
            by_cases e1 : y = (v : Int)
            · exact .inr e1
            · exact .inl ⟨h1, by omega, h3⟩)
      exact ⟨r, Ev.suc (fun q => by rw [hstep, if_pos h0]) h1, h2⟩
    · obtain ⟨r, h1, h2⟩ := hnext H (by
        refine ⟨h.len, fun x => ?_, fun x hx y => ?_, fun y => ?_⟩
        · have h3 := h.big x
          simp only [List.length_nil] at *
          omega
        · rw [h.edge x hx y]
          constructor
          · rintro (h1 | h1)
            · exact .inl ⟨h1.1, by omega, h1.2.2⟩
            · exact .inl ⟨by rw [h1.1]; exact hvn, by omega, by rw [h1.1, hadj]; exact h1.2⟩
          · rintro (⟨h1, h2, h3⟩ | h1)
            · by_cases e1 : y = (v : Int)
              · exact .inr ⟨e1, by rw [e1, hadj] at h3; exact h3⟩
              · exact .inl ⟨h1, by omega, h3⟩
            · simp at h1
        · rw [h.sink y]
          constructor
          · rintro ⟨h1, h2, h3⟩; exact ⟨h1, by omega, h3⟩
          · rintro ⟨h1, h2, h3⟩
            by_cases e1 : y = (v : Int)
            · rw [e1, hadj] at h3; omega
            · exact ⟨h1, by omega, h3⟩)
      exact ⟨r, Ev.suc (fun q => by rw [hstep, if_neg h0]) h1, h2⟩
  | succ d ih =>
    intro j H hj h
    have hlt : j < (rd_L1 G (v : Int)).length := by omega
    have htk : (rd_L1 G (v : Int)).take (j + 1) = (rd_L1 G (v : Int)).take j ++ [(rd_L1 G (v : Int))[j]] := List.take_succ_eq_append_getElem hlt
    have hbn := hrn _ (List.getElem_mem hlt)
    obtain ⟨r, h1, h2⟩ := ih (j + 1) _ (by omega) (by rw [htk]; exact h.put hbn)
    unfold isNode at hbn
    refine ⟨r, Ev.suc (fun q => ?_) h1, h2⟩
    have hb := h.big (rd_L1 G (v : Int))[j]
    rw [List.length_take] at hb
    show burnishref08_PostDominators.l1 (q + 1) _ _ _ _ _ _ _ = _
    rw [burnishref08_PostDominators.l1, if_pos (by omega), if_pos (by omega), if_pos (by omega), rd_get _ j hlt, if_pos hbn.1, if_pos (by rw [h.len]; omega), if_pos (by omega), w64 j (j + 1) (by omega) (by omega)]
theorem rp_l0 : ∀ (d v : Nat) (H : List (List Int)), v + d = G.length → Rv G H v [] → ∃ r, Ev (fun q => burnishref08_PostDominators.l0 q (G.length : Int) (v : Int) G H) r ∧ Bld (postG G) (G.length : Int) r := by
  intro d
  induction d with
  | zero =>
    intro v H hv h
    obtain rfl : v = G.length := by omega
    obtain ⟨r, h1, h2⟩ := rb_f (G := H) (G.length : Int) (by rw [h.len]; omega) (fun l hm => by
      obtain ⟨i, hi, rfl⟩ := List.getElem_of_mem hm
      have := h.big (i : Int)
      rw [rd1_get H i hi] at this
      simp only [List.length_nil] at this
      omega)
    refine ⟨r, Ev.suc (h := fun q => (burnishref08_Build.f q H (G.length : Int)).bind fun t254 => some t254) (fun q => ?_) (Ev.bind (G := fun _ t254 => some t254) h1 (Ev.ret r)), (h.fin hc hl hr).bld h2⟩
    show burnishref08_PostDominators.l0 (q + 1) _ _ _ _ = _
    rw [burnishref08_PostDominators.l0, if_neg (by omega)]
  | succ d ih =>
    intro v H hv h
    obtain ⟨r, h1, h2⟩ := rp_l1 hc hl hr (v := v) (by omega) (fun H hH => ih (v + 1) H (by omega) hH) _ 0 H (Nat.zero_add _) (by rw [List.take_zero]; exact h)
    refine ⟨r, Ev.suc (fun q => ?_) h1, h2⟩
    show burnishref08_PostDominators.l0 (q + 1) _ _ _ _ = _
    rw [burnishref08_PostDominators.l0, if_pos (by omega), if_pos (by omega), if_pos (by omega)]
    rfl
end
theorem rp_f {G : List (List Int)} (hl : G.length ≤ 60) (hr : ∀ l ∈ G, l.length ≤ 200) : ∃ r, Ev (fun q => burnishref08_PostDominators.f q G) r ∧ ((chk G = 0 ∧ Bld (postG G) (G.length : Int) r) ∨ (chk G ≠ 0 ∧ r = [])) := by
  have hsh : short G := ⟨by omega, fun l hm => by have := hr l hm; omega⟩
  unfold burnishref08_PostDominators.f
  by_cases hc : chk G = 0
  · obtain ⟨r, h1, h2⟩ := rp_l0 hc hl hr G.length 0 (List.replicate (G.length + 1) []) (Nat.zero_add _) (by
      have hrd : ∀ x, rd_L1 (List.replicate (G.length + 1) ([] : List Int)) x = [] := fun x => by
        unfold rd_L1
        rw [List.getD_eq_getElem?_getD, List.getElem?_replicate]
        split <;> rfl
      refine ⟨by simp, fun x => by rw [hrd]; simp, fun x hx y => ?_, fun y => ?_⟩
      · rw [hrd]
        constructor
        · intro h9; simp at h9
        · rintro (⟨h1, h2, _⟩ | ⟨_, h2⟩)
          · unfold isNode at h1; omega
          · simp at h2
      · rw [hrd]
        constructor
        · intro h9; simp at h9
        · rintro ⟨h1, h2, _⟩
          unfold isNode at h1; omega)
    refine ⟨r, Ev.bind (rchk_f G hsh) ?_, .inl ⟨hc, h2⟩⟩
    refine Ev.of (fun q => by rw [if_pos hc, decide_eq_false (by omega)]) (Ev.suc (fun q => ?_) h1)
    show burnishref08_PostDominators.j0 (q + 1) _ _ _ = _
    have hw : wrap64 ((G.length : Int) + 1) = ((G.length + 1 : Nat) : Int) := by unfold wrap64; omega
    rw [burnishref08_PostDominators.j0, if_neg (by simp), hw, if_pos (by omega), if_pos (by omega)]
    rfl
  · refine ⟨[], Ev.bind (rchk_f G hsh) ?_, .inr ⟨hc, rfl⟩⟩
    exact Ev.of (fun q => by rw [if_neg hc]) (Ev.suc (fun q => by show burnishref08_PostDominators.j0 (q + 1) _ _ _ = _; rw [burnishref08_PostDominators.j0, if_pos rfl]) (Ev.ret _))
theorem rpost_ref (A : Option Addr) (c : Nat) (G : List (List Int)) (w : World) (hC : Kd.C kG w A G.length G) (hc : G.length ≤ c) (hl : G.length ≤ 60) (hr : ∀ l ∈ G, l.length ≤ 200) :
    Calls Try.prog 15 #[.agg #[.slice A G.length c]] w fun e' w' => ∃ v l, e' = .returned v ∧ Kd.R (Kd.int .i64) 3 w' 0 (fun _ => True) v l ∧ ((chk G = 0 ∧ Bld (postG G) (G.length : Int) l) ∨ (chk G ≠ 0 ∧ l = [])) ∧ Below w.heap.size w w' := by
  obtain ⟨r, hr2, hB⟩ := rp_f hl hr
  obtain ⟨k, hk⟩ := hr2.get
  refine (burnishref08_PostDominators.calls k A c G r w hC hc hk).mono ?_
  rintro e' w' ⟨v, rfl, hR, hb⟩
  exact ⟨v, r, rfl, Kd.R_lower hR (Nat.zero_le _), hB, hb⟩
end Go.Proofs.Ytbphjbfnnhfhlaa
end

section
/- DomtreePost: the law's walk. -/
set_option linter.unusedVariables false
set_option linter.unusedSimpArgs false
set_option linter.unusedSectionVars false
namespace Go.Proofs.Ytbphjbfnnhfhlaa
open Go.RowKit Go.Proofs.YtbphjbfnnhfhlaaW.PrintWords Go.Proofs.Ytbphjbfnnhfhlaa.PDigraphTells Mem

theorem post_uniq {G : List (List Int)} {l m : List Int} (h1 : (chk G = 0 ∧ Bld (postG G) (G.length : Int) l) ∨ (chk G ≠ 0 ∧ l = [])) (h2 : (chk G = 0 ∧ Bld (postG G) (G.length : Int) m) ∨ (chk G ≠ 0 ∧ m = [])) : l = m := by
  rcases h1 with ⟨p, q⟩ | ⟨p, q⟩ <;> rcases h2 with ⟨p2, q2⟩ | ⟨p2, q2⟩
  · exact Bld.uniq q q2
  · exact absurd p p2
  · exact absurd p2 p
  · rw [q, q2]
set_option maxRecDepth 100000 in
set_option maxHeartbeats 4000000 in
theorem post_walk (cs : Array Value) (G : List (List Int)) (w : World) (hK : kGr.K w G cs.toList) (hg : big G) :
    Calls Try.prog 4 #[.agg cs] w fun e w' => e = .returned (.bool true) ∧ Below w.heap.size w w' := by
  obtain ⟨A, c, rfl, hc, hC⟩ := graph_arg hK
  obtain ⟨r, hr⟩ : ∃ r, chk G = r := ⟨_, rfl⟩
  have hX := Aside0.mk (And.intro hc (And.intro hg.short hr))
  have hfl := field_succs
  have H0 := Aside0.mk (Gw.start (c := c) hC)
  clear hK hg hC hc hr
  have c0 := H0.out.cell
  go_enter Try.func4, Try.ntmps4
  go_wp2_with fail
  obtain ⟨gb, hgb⟩ : ∃ gb, gb = w.heap.size := ⟨_, rfl⟩
  obtain ⟨w1, hw1⟩ : ∃ w1, w1 = w.alloc (.cells #[.slice A G.length c] 24 (0, 0)) := ⟨_, rfl⟩
  rw [← hgb, ← hw1] at H0
  rw [show Value.pointer (some (⟨w.heap.size, 0, none⟩ : Addr)) = Value.pointer (some ⟨gb, 0, none⟩) by rw [hgb], ← hw1]
  clear hgb hw1 c0
  refine (large2_any A c G _ H0.out.C hX.out.1).mono ?_
  rintro e' w2 ⟨bo, rfl, hbo, B2⟩
  have H2 := Aside0.mk (H0.out.step B2)
  have c0 := H2.out.cell
  clear B2 H0
  cases bo
  rotate_left
  · clear hbo
    go_wp2_with fail
    refine (works_any _).mono ?_
    rintro e' w9 ⟨rfl, B9⟩
    have hF := Aside0.mk (H2.out.step B9).b
    clear B9 H2 c0
    go_wp2
    go_ret
    exact ⟨rfl, hF.out⟩
  obtain ⟨hl, hrow⟩ := hbo rfl
  replace hrow := Aside0.mk hrow
  clear hbo
  go_upto_region 2 with (fail)
  have hRG := Aside0.mk (fun (W : World) (h : Kd.C kG W A G.length G) => postdom_any A c G W h hX.out.1 hX.out.2.1 (by omega))
  have hRH := Aside0.mk (fun (W : World) (h : Kd.C kG W A G.length G) => rpost_ref A c G W h hX.out.1 hl hrow.out)
  go_region_held3 (fun w' => w'.cell? ⟨gb, 0, none⟩ = some (.slice A G.length c)) (first | assumption | go_keep) (first
    | ((go_at_call 14; with_reducible refine (hRG.out _ ?_).mono ?_)
       · first | exact H2.out.C | exact (Kd.C_drewN H2.out.C _)
       rintro e' w6 ⟨v, l, rfl, Rx, hB1, Bx⟩
       obtain ⟨A6, c6, ev, hx6, C6⟩ := Kd.R_reads Rx
       subst ev
       have Bx : Below w2.heap.size w2 w6 := by first | exact Bx | exact (pw_below_drewN (Below.refl _ w2) _).trans Bx
       have H6 := Aside0.mk (And.intro (H2.out.step Bx) (And.intro C6 (And.intro hx6 hB1)))
       have f1 := H6.out.1.cell
       clear Bx C6 hx6 hB1 Rx)
    | ((go_at_call 15; with_reducible refine (hRH.out _ ?_).mono ?_)
       · first | exact H6.out.1.C | exact (Kd.C_drewN H6.out.1.C _)
       rintro e' w7 ⟨v, l7, rfl, Rx, hB1, Bx⟩
       have el := post_uniq hB1 H6.out.2.2.2
       subst el
       obtain ⟨A7, c7, ev, hx7, C7⟩ := Kd.R_reads Rx
       subst ev
       have Bx : Below w6.heap.size w6 w7 := by first | exact Bx | exact (pw_below_drewN (Below.refl _ w6) _).trans Bx
       have hll := Aside0.mk (show l7.length ≤ 1000000 by
         rcases hB1 with ⟨h8, h9⟩ | ⟨_, h9⟩
         · rcases h9 with ⟨_, h9⟩ | ⟨_, h9⟩
           · rw [h9.len, postG_len h8]; omega
           · rw [h9]; simp
         · rw [h9]; simp)
       have H7 := Aside0.mk (And.intro (H6.out.1.step Bx) (And.intro (Kd.C_below H6.out.2.1 Bx) (And.intro H6.out.2.2.1 (And.intro C7 hx7))))
       have f2 := H7.out.1.cell
       have hRE := Aside0.mk (fun (W : World) (h1 : Kd.C (Kd.int .i64) W A6 l7.length l7) (h2 : Kd.C (Kd.int .i64) W A7 l7.length l7) => eqi_any c6 c7 A6 A7 l7 l7 W h1 h2 H7.out.2.2.1 H7.out.2.2.2.2 hll.out true (by simp))
       clear Bx hx7 C7 Rx hB1)
    | ((go_at_call 11; with_reducible refine (hRE.out _ ?_ ?_).mono ?_)
       · first | exact H7.out.2.1 | exact (Kd.C_drewN H7.out.2.1 _)
       · first | exact H7.out.2.2.2.1 | exact (Kd.C_drewN H7.out.2.2.2.1 _)
       rintro e' w8 ⟨rfl, Bx⟩
       have Bx : Below w7.heap.size w7 w8 := by first | exact Bx | exact (pw_below_drewN (Below.refl _ w7) _).trans Bx
       have H8 := Aside0.mk (H7.out.1.step Bx)
       have f3 := H8.out.cell
       clear Bx)
    | ((go_at_call 10; with_reducible refine (works_any _).mono ?_)
       rintro e' w9 ⟨rfl, Bx⟩
       have Bx : Below w8.heap.size w8 w9 := by first | exact Bx | exact (pw_below_drewN (Below.refl _ w8) _).trans Bx
       have H9 := Aside0.mk (H8.out.step Bx)
       have f4 := H9.out.cell
       clear Bx))
  have hF := Aside0.mk H9.out.b
  clear f1 f2 f3 f4 H9 H8 H7 H6 c0
  go_wp2
  go_ret
  exact ⟨rfl, hF.out⟩
end Go.Proofs.Ytbphjbfnnhfhlaa
end

