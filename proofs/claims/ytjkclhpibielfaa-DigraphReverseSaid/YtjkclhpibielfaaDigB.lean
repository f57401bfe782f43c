/- The reference's search and reachability in plain lists. -/
import Derived.Test.YtjkclhpibielfaaDigA
set_option linter.unusedVariables false
set_option linter.unusedSimpArgs false
namespace Go.Proofs.Ytjkclhpibielfaa
open Go.RowKit Go.Proofs.YtjkclhpibielfaaW.PrintWords Go.Proofs.Ytjkclhpibielfaa.PDigraphTells Grf

def adj (G : List (List Int)) (a : Int) : List Int := rd_L1 G a
def nodes (G : List (List Int)) : List Int := (List.range G.length).map fun (i : Nat) => (i : Int)
theorem mem_nodes (G : List (List Int)) (a : Int) : a ∈ nodes G ↔ isNode G a := by
  unfold nodes isNode
  rw [List.mem_map]
  constructor
  · rintro ⟨i, hi, rfl⟩
    rw [List.mem_range] at hi
    omega
  · intro h
    exact ⟨a.toNat, List.mem_range.2 (by omega), by omega⟩
theorem nodes_len (G : List (List Int)) : (nodes G).length = G.length := by unfold nodes; simp
theorem nodes_nd (G : List (List Int)) : (nodes G).Nodup := by
  unfold nodes
  unfold List.Nodup
  rw [List.pairwise_map]
  exact List.nodup_range.imp (fun h e => h (by omega))
theorem adj_eq {G : List (List Int)} {a : Int} (h : isNode G a) : ∃ (hi : a.toNat < G.length), adj G a = G[a.toNat] := by
  unfold isNode at h
  have hi : a.toNat < G.length := by omega
  exact ⟨hi, by unfold adj; simp [rd_L1, hi]⟩
theorem adj_mem {G : List (List Int)} {a : Int} (h : isNode G a) : adj G a ∈ G := by
  obtain ⟨hi, e⟩ := adj_eq h
  rw [e]
  exact List.getElem_mem hi
theorem adj_nat (G : List (List Int)) (i : Nat) (h : i < G.length) : adj G (i : Int) = G[i] := rd1_get G i h
/-- A graph that Check passes. -/
def okG (G : List (List Int)) : Prop := chk G = 0
theorem okG.len {G : List (List Int)} (h : okG G) : G.length ≤ 65536 := (chk_ok.1 h).1
theorem okG.row {G : List (List Int)} (h : okG G) {l : List Int} (hl : l ∈ G) {s : Int} (hs : s ∈ l) : isNode G s := (chk_ok.1 h).2 l hl s hs
theorem okG.adj {G : List (List Int)} (h : okG G) {a b : Int} (ha : isNode G a) (hb : b ∈ adj G a) : isNode G b := h.row (adj_mem ha) hb
theorem okG.cl {G : List (List Int)} (h : okG G) : ∀ a ∈ nodes G, ∀ b ∈ Go.Proofs.Ytjkclhpibielfaa.adj G a, b ∈ nodes G := fun a ha b hb => (mem_nodes G b).2 (h.adj ((mem_nodes G a).1 ha) hb)

def metOf (l : List Bool) : Grf.Met := fun x => decide (0 ≤ x) && l.getD x.toNat false
theorem metOf_get (l : List Bool) (i : Nat) (h : i < l.length) : metOf l (i : Int) = l[i] := by simp [metOf, h]
theorem metOf_rd (l : List Bool) (x : Int) (h : 0 ≤ x) : rdOf false l x = metOf l x := by simp [metOf, rdOf, h]
theorem metOf_set (l : List Bool) (a : Int) (h0 : 0 ≤ a) (h : a < l.length) : metOf (l.set a.toNat true) = Grf.mark (metOf l) a := by
  funext x
  unfold metOf Grf.mark
  by_cases e : x = a
  · subst e
    have : x.toNat < l.length := by omega
    simp [h0, this]
  · by_cases hx : 0 ≤ x
    · have : a.toNat ≠ x.toNat := by omega
      simp [e, hx, List.getD_eq_getElem?_getD, List.getElem?_set_ne this]
    · simp [e, hx]
theorem metOf_lt {l : List Bool} {x : Int} (h : metOf l x = true) : 0 ≤ x ∧ x < l.length := by
  unfold metOf at h
  by_cases h0 : 0 ≤ x
  · refine ⟨h0, ?_⟩
    refine Classical.byContradiction fun h1 => ?_
    rw [List.getD_eq_getElem?_getD, List.getElem?_eq_none (by omega)] at h
    simp at h
  · simp [h0] at h
theorem metOf_false (n : Nat) : metOf (List.replicate n false) = fun _ => false := by
  funext x
  unfold metOf
  rw [List.getD_eq_getElem?_getD]
  by_cases h : x.toNat < n
  · simp [h]
  · rw [List.getElem?_eq_none (by simp; omega)]; simp
theorem metOf_ext {a b : List Bool} (hl : a.length = b.length) (h : ∀ x : Int, 0 ≤ x → x < a.length → metOf a x = metOf b x) : a = b := by
  refine List.ext_getElem hl fun i h1 h2 => ?_
  have := h (i : Int) (by omega) (by omega)
  rw [metOf_get a i h1, metOf_get b i h2] at this
  exact this

theorem rvisit {G : List (List Int)} (hG : okG G) (hs : short G) : ∀ (k : Nat) (n : Int) (l2 : List Bool) (l3 : List Int), isNode G n → metOf l2 n = false → cnt (nodes G) (metOf l2) ≤ k → l2.length = G.length → l3.length + cnt (nodes G) (metOf l2) ≤ 70000 →
    ∃ r2, r2.length = G.length ∧ metOf r2 = (visit (adj G) k n (metOf l2) l3).1 ∧ (visit (adj G) k n (metOf l2) l3).2.length + cnt (nodes G) (metOf r2) ≤ l3.length + cnt (nodes G) (metOf l2) ∧
      Ev (fun q => burnishref06_visit.f q G n l2 l3) ((visit (adj G) k n (metOf l2) l3).2, r2)
  | 0, n, l2, l3, hn, hm, hc, _, _ => by have := cnt_pos ((mem_nodes G n).2 hn) hm; omega
  | k + 1, n, l2, l3, hn, hm, hc, hl, hb => by
    have hnn := hn
    obtain ⟨hi, hrow⟩ := adj_eq hn
    unfold isNode at hn
    have hc2 := cnt_mark ((mem_nodes G n).2 hnn) hm
    obtain ⟨row, hr⟩ : ∃ row, adj G n = row := ⟨_, rfl⟩
    have hrl : row.length < 4611686018427387904 := by rw [← hr, hrow]; exact hs.2 _ (List.getElem_mem hi)
    have key : ∀ (d j : Nat) (l2 : List Bool) (l3 : List Int), j + d = row.length → cnt (nodes G) (metOf l2) ≤ k → l2.length = G.length → l3.length + cnt (nodes G) (metOf l2) < 70000 →
        ∃ r2, r2.length = G.length ∧ metOf r2 = (visits (adj G) k (row.drop j) (metOf l2) l3).1 ∧ (visits (adj G) k (row.drop j) (metOf l2) l3).2.length + cnt (nodes G) (metOf r2) ≤ l3.length + cnt (nodes G) (metOf l2) ∧
          Ev (fun q => burnishref06_visit.l0 q n l2 l3 row (row.length : Int) (j : Int) G) ((visits (adj G) k (row.drop j) (metOf l2) l3).2 ++ [n], r2) := by
      intro d
      induction d with
      | zero =>
        intro j l2 l3 hj hc3 hl2 hb3
        rw [List.drop_eq_nil_of_le (by omega), visits]
        refine ⟨l2, hl2, rfl, Nat.le_refl _, Ev.suc (fun q => ?_) (Ev.ret _)⟩
        simp only [burnishref06_visit.l0]
        rw [if_neg (by omega), if_pos (by omega)]
      | succ d ih =>
        intro j l2 l3 hj hc3 hl2 hb3
        have hlt : j < row.length := by omega
        have hmn : isNode G row[j] := hG.adj hnn (by rw [hr]; exact List.getElem_mem hlt)
        have hmn' := hmn
        unfold isNode at hmn
        rw [List.drop_eq_getElem_cons hlt, visits]
        cases e : metOf l2 row[j] with
        | true =>
          rw [if_pos rfl]
          obtain ⟨r2, h1, h2, h3, h4⟩ := ih (j + 1) l2 l3 (by omega) hc3 hl2 hb3
          refine ⟨r2, h1, h2, h3, Ev.suc (fun q => ?_) h4⟩
          simp only [burnishref06_visit.l0]
          rw [if_pos (by omega), if_pos (by omega), if_pos (by omega), rd_get row j hlt, if_pos (by omega), if_pos (by omega), metOf_rd l2 _ hmn.1, e, if_pos rfl, w64 j row.length hlt hrl]
        | false =>
          rw [if_neg (by simp)]
          obtain ⟨s2, g1, g2, g3, g4⟩ := rvisit hG hs k row[j] l2 l3 hmn' e hc3 hl2 (by omega)
          obtain ⟨nw, hf, _⟩ := visit_found (okG.cl hG) k row[j] (metOf l2) l3 (fun _ => True) ((mem_nodes G _).2 hmn') e hc3 (fun _ _ => trivial)
          have hmono : cnt (nodes G) (metOf s2) ≤ cnt (nodes G) (metOf l2) := by rw [g2]; exact cnt_mono fun x hx => (hf.met_ x).2 (.inl hx)
          obtain ⟨r2, h1, h2, h3, h4⟩ := ih (j + 1) s2 (visit (adj G) k row[j] (metOf l2) l3).2 (by omega) (by omega) g1 (by omega)
          rw [g2] at h2 h3 h4
          rw [g2] at g3
          refine ⟨r2, h1, h2, by omega, ?_⟩
          have hstep : ∀ q, burnishref06_visit.l0 (q + 1) n l2 l3 row (row.length : Int) (j : Int) G = (burnishref06_visit.f q G row[j] l2 l3).bind fun bt251 => burnishref06_visit.l0 q n bt251.2 bt251.1 row (row.length : Int) ((j + 1 : Nat) : Int) G := by
            intro q
            simp only [burnishref06_visit.l0]
            rw [if_pos (by omega), if_pos (by omega), if_pos (by omega), rd_get row j hlt, if_pos (by omega), if_pos (by omega), metOf_rd l2 _ hmn.1, e, if_neg (by simp), w64 j row.length hlt hrl]
          exact Ev.suc hstep (Ev.bind g4 h4)
    rw [visit]
    obtain ⟨r2, h1, h2, h3, h4⟩ := key row.length 0 (l2.set n.toNat true) l3 (by omega) (by rw [metOf_set l2 n hn.1 (by omega)]; omega) (by simp [hl]) (by rw [metOf_set l2 n hn.1 (by omega)]; omega)
    rw [metOf_set l2 n hn.1 (by omega), List.drop_zero] at h2 h3 h4
    rw [hr]
    refine ⟨r2, h1, h2, by rw [List.length_append]; simp only [List.length_cons, List.length_nil]; omega, Ev.suc (fun q => ?_) h4⟩
    simp only [burnishref06_visit.f]
    rw [if_pos hn.1, if_pos (by omega), if_pos hn.2]
    unfold adj at hr
    rw [hr]
    rfl

/-- The depth-first postorder. -/
def post (G : List (List Int)) (a : Int) : List Int := if chk G = 0 ∧ isNode G a then (visit (adj G) G.length a (fun _ => false) []).2 else []
theorem cnt_all (G : List (List Int)) : cnt (nodes G) (fun _ => false) = G.length := by
  unfold cnt
  rw [List.filter_eq_self.2 (by simp), nodes_len]
theorem rpost_f (G : List (List Int)) (hs : short G) (a : Int) : Ev (fun k => burnishref06_Postorder.f k G a) (post G a) := by
  unfold burnishref06_Postorder.f
  refine Ev.bind (ok_f G hs a) ?_
  unfold post
  by_cases h : chk G = 0 ∧ isNode G a
  · have hl := okG.len h.1
    have h0 : metOf (List.replicate G.length false) = fun _ => false := metOf_false _
    obtain ⟨r2, h1, h2, h3, h4⟩ := rvisit h.1 hs G.length a (List.replicate G.length false) [] h.2 (by rw [h0]) (by rw [h0, cnt_all]; exact Nat.le_refl _) (by simp) (by rw [h0, cnt_all]; simp; omega)
    rw [h0] at h4
    rw [if_pos h]
    refine Ev.of (h := fun k => (burnishref06_visit.f k G a (List.replicate G.length false) ([] : List Int)).bind fun bt263 => (some bt263.1)) (fun k => ?_) (Ev.bind h4 (Ev.ret _))
    rw [if_pos (by simpa using h), if_pos (by omega), if_pos (by omega), Int.toNat_natCast]
  · rw [if_neg h]
    refine Ev.of (fun k => by rw [if_neg (by simpa using h)]) (Ev.ret _)
theorem post_len (G : List (List Int)) (a : Int) : (post G a).length ≤ G.length := by
  unfold post
  by_cases h : chk G = 0 ∧ isNode G a
  · rw [if_pos h]
    obtain ⟨nw, hf, _⟩ := visit_found (okG.cl h.1) G.length a (fun _ => false) [] (fun _ => True) ((mem_nodes G a).2 h.2) rfl (by rw [cnt_all]; exact Nat.le_refl _) (fun _ _ => trivial)
    rw [hf.eq, List.nil_append]
    rw [← nodes_len G]
    have key : ∀ (l m : List Int), l.Nodup → (∀ x ∈ l, x ∈ m) → l.length ≤ m.length := by
      intro l
      induction l with
      | nil => intro m _ _; simp
      | cons b l ih =>
        intro m hn hs
        have hb := hs b List.mem_cons_self
        rw [List.nodup_cons] at hn
        have := ih (m.erase b) hn.2 (fun x hx => (List.mem_erase_of_ne (fun e => hn.1 (by rw [← e]; exact hx))).2 (hs x (List.mem_cons_of_mem _ hx)))
        rw [List.length_erase_of_mem hb] at this
        have : 0 < m.length := List.length_pos_of_mem hb
        simp only [List.length_cons]; omega
    exact key nw (nodes G) hf.nd hf.inV
  · rw [if_neg h]; simp

theorem rrev_l0 (l : List Int) (hl : l.length ≤ 70000) : ∀ (d i : Nat), i + d = l.length → Ev (fun k => burnishref06_ReversePostorder.l0 k (l.reverse.take i) l (l.length : Int) (i : Int)) l.reverse := by
  intro d
  induction d with
  | zero =>
    intro i hi
    rw [List.take_of_length_le (by simp; omega)]
    refine Ev.suc (fun k => ?_) (Ev.ret _)
    simp only [burnishref06_ReversePostorder.l0]
    rw [if_neg (by omega)]
  | succ d ih =>
    intro i hi
    have hlt : i < l.length := by omega
    refine Ev.suc (fun k => ?_) (ih (i + 1) (by omega))
    have e1 : wrap64 ((wrap64 ((l.length : Int) - 1)) - (i : Int)) = ((l.length - 1 - i : Nat) : Int) := by unfold wrap64; omega
    simp only [burnishref06_ReversePostorder.l0]
    rw [if_pos (by omega), e1, if_pos (by omega), if_pos (by omega), if_pos (by rw [List.length_take, List.length_reverse]; omega), rd_get l _ (by omega), w64 i l.length hlt (by omega)]
    have e2 : l.reverse.take (i + 1) = l.reverse.take i ++ [l[l.length - 1 - i]] := by
      rw [List.take_succ_eq_append_getElem (by simpa using hlt), List.getElem_reverse]
    rw [e2]
theorem rrpost_f (G : List (List Int)) (hs : short G) (hl : G.length ≤ 65536) (a : Int) : Ev (fun k => burnishref06_ReversePostorder.f k G a) (post G a).reverse := by
  unfold burnishref06_ReversePostorder.f
  refine Ev.bind (rpost_f G hs a) ?_
  have := rrev_l0 (post G a) (by have := post_len G a; omega) (post G a).length 0 (by omega)
  rw [List.take_zero] at this
  exact this
theorem srev_l0 (l0 : List Int) (hl : l0.length ≤ 70000) : ∀ (d i : Nat) (l : List Int), i + d = l0.length → l.length = l0.length → (∀ j (h : j < l.length), l[j] = if j < i ∨ l0.length - 1 - i < j then l0.reverse.getD j 0 else l0.getD j 0) →
    Ev (fun k => slices_Reverse_int_int.l0 k l (i : Int) ((l0.length : Int) - 1 - i)) l0.reverse := by
  intro d
  induction d with
  | zero =>
    intro i l hi hll hg
    refine Ev.suc (h := fun _ => some l0.reverse) (fun k => ?_) (Ev.ret _)
    simp only [slices_Reverse_int_int.l0]
    rw [if_neg (by omega)]
    congr 1
    refine List.ext_getElem (by simp [hll]) fun j h1 h2 => ?_
    rw [hg j h1, if_pos (.inl (by omega))]
    simp only [List.getD_eq_getElem?_getD, List.getElem?_eq_getElem h2, Option.getD_some]
  | succ d ih =>
    intro i l hi hll hg
    by_cases hc : (i : Int) < (l0.length : Int) - 1 - i
    · have hi1 : i < l.length := by omega
      have hj1 : l0.length - 1 - i < l.length := by omega
      have ej : ((l0.length : Int) - 1 - i) = ((l0.length - 1 - i : Nat) : Int) := by omega
      refine Ev.suc (fun k => ?_) (ih (i + 1) ((l.set i (l[l0.length - 1 - i])).set (l0.length - 1 - i) l[i]) (by omega) (by simp [hll]) ?_)
      · simp only [slices_Reverse_int_int.l0]
        have e1 : wrap64 ((i : Int) + 1) = ((i + 1 : Nat) : Int) := w64 i l0.length (by omega) (by omega)
        have e2 : wrap64 (((l0.length : Int) - 1 - i) - 1) = (l0.length : Int) - 1 - ((i + 1 : Nat) : Int) := by unfold wrap64; omega
        rw [if_pos hc, if_pos (by omega), if_pos (by omega), if_pos (by omega), if_pos (by omega), e1, e2, ej, rd_get l _ hj1, rd_get l i hi1, Int.toNat_natCast, Int.toNat_natCast]
      · intro j hj
        simp only [List.length_set] at hj
        have hr : ∀ j, j < l0.length → l0.reverse.getD j 0 = l0.getD (l0.length - 1 - j) 0 := by
          intro j hj
          simp only [List.getD_eq_getElem?_getD]
          rw [List.getElem?_eq_getElem (by simpa using hj), List.getElem?_eq_getElem (show l0.length - 1 - j < l0.length by omega), List.getElem_reverse]
        rw [List.getElem_set, List.getElem_set]
        by_cases e1 : l0.length - 1 - i = j
        · subst e1
          rw [if_pos rfl, if_pos (.inr (by omega)), hg i hi1, if_neg (by omega), hr _ (by omega)]
          congr 1; omega
        · rw [if_neg e1]
          by_cases e2 : i = j
          · subst e2
            rw [if_pos rfl, if_pos (.inl (by omega)), hg _ hj1, if_neg (by omega), hr _ (by omega)]
          · rw [if_neg e2, hg j hj]
            by_cases e3 : j < i ∨ l0.length - 1 - i < j
            · rw [if_pos e3, if_pos (by omega)]
            · rw [if_neg e3, if_neg (by omega)]
    · refine Ev.suc (h := fun _ => some l0.reverse) (fun k => ?_) (Ev.ret _)
      simp only [slices_Reverse_int_int.l0]
      rw [if_neg hc]
      congr 1
      refine List.ext_getElem (by simp [hll]) fun j h1 h2 => ?_
      rw [hg j h1]
      have hjl : j < l0.length := by omega
      by_cases e3 : j < i ∨ l0.length - 1 - i < j
      · rw [if_pos e3]
        simp only [List.getD_eq_getElem?_getD, List.getElem?_eq_getElem h2, Option.getD_some]
      · rw [if_neg e3, List.getElem_reverse]
        simp only [List.getD_eq_getElem?_getD, List.getElem?_eq_getElem hjl, Option.getD_some]
        congr 1; omega
theorem srev_f (l : List Int) (hl : l.length ≤ 70000) : Ev (fun k => slices_Reverse_int_int.f k l) l.reverse := by
  unfold slices_Reverse_int_int.f
  have e : wrap64 ((l.length : Int) - 1) = (l.length : Int) - 1 - ((0 : Nat) : Int) := by unfold wrap64; omega
  rw [e]
  exact srev_l0 l hl l.length 0 l (by omega) rfl (fun j h => by rw [if_neg (by omega)]; simp [h])
end Go.Proofs.Ytjkclhpibielfaa
