/- The reference's Distances and ShortestPath in plain lists. -/
import Derived.Test.YtjkclhpibielfaaDigC
set_option linter.unusedVariables false
set_option linter.unusedSimpArgs false
namespace Go.Proofs.Ytjkclhpibielfaa
open Go.RowKit Go.Proofs.YtjkclhpibielfaaW.PrintWords Go.Proofs.Ytjkclhpibielfaa.PDigraphTells

theorem nodup_len {α : Type} [BEq α] [LawfulBEq α] : ∀ (l m : List α), l.Nodup → (∀ x ∈ l, x ∈ m) → l.length ≤ m.length
  | [], _, _, _ => Nat.zero_le _
  | b :: l, m, hn, hs => by
    have hb := hs b List.mem_cons_self
    rw [List.nodup_cons] at hn
    have := nodup_len l (m.erase b) hn.2 (fun x hx => (List.mem_erase_of_ne (fun e => hn.1 (by rw [← e]; exact hx))).2 (hs x (List.mem_cons_of_mem _ hx)))
    rw [List.length_erase_of_mem hb] at this
    have : 0 < m.length := List.length_pos_of_mem hb
    simp only [List.length_cons]; omega
def distOf (l : List Int) : Int → Int := fun x => if 0 ≤ x ∧ x < l.length then l.getD x.toNat 0 else -1
theorem distOf_rd (l : List Int) (x : Int) (h0 : 0 ≤ x) (h : x < l.length) : rd l x = distOf l x := by
  unfold distOf rd; rw [if_pos ⟨h0, h⟩]
theorem distOf_get (l : List Int) (i : Nat) (h : i < l.length) : distOf l (i : Int) = l[i] := by
  rw [← distOf_rd l _ (by omega) (by omega), rd_get l i h]
theorem distOf_set (l : List Int) (a v : Int) (h0 : 0 ≤ a) (h : a < l.length) : distOf (l.set a.toNat v) = Grf.put (distOf l) a v := by
  funext x
  unfold distOf Grf.put
  rw [List.length_set]
  by_cases e : x = a
  · subst e
    have : x.toNat < l.length := by omega
    rw [if_pos ⟨h0, h⟩, if_pos rfl]
    simp [this]
  · rw [if_neg e]
    show (if 0 ≤ x ∧ x < (l.length : Int) then (l.set a.toNat v).getD x.toNat 0 else -1) = if 0 ≤ x ∧ x < (l.length : Int) then l.getD x.toNat 0 else -1
    by_cases hx : 0 ≤ x ∧ x < l.length
    · rw [if_pos hx, if_pos hx]
      have : a.toNat ≠ x.toNat := by omega
      simp [List.getD_eq_getElem?_getD, List.getElem?_set_ne this]
    · rw [if_neg hx, if_neg hx]
theorem distOf_neg (n : Nat) : distOf (List.replicate n (-1)) = fun _ => -1 := by
  funext x
  unfold distOf
  by_cases hx : 0 ≤ x ∧ x < (List.replicate n (-1 : Int)).length
  · rw [if_pos hx]
    simp only [List.length_replicate] at hx
    have : x.toNat < n := by omega
    simp [this]
  · rw [if_neg hx]
theorem distOf_ext {a b : List Int} (hl : a.length = b.length) (h : ∀ x : Int, 0 ≤ x → x < a.length → distOf a x = distOf b x) : a = b := by
  refine List.ext_getElem hl fun i h1 h2 => ?_
  have := h (i : Int) (by omega) (by omega)
  rw [distOf_get a i h1, distOf_get b i h2] at this
  exact this

/-- The rounds of Distances: in round d, where the edges of P are seen. -/
structure DI (G : List (List Int)) (t : Int) (d : Nat) (o : List Int) (P : Int → Int → Prop) : Prop where
  len : o.length = G.length
  zero : distOf o t = 0
  neg : ∀ a, distOf o a < 0 → distOf o a = -1
  walk : ∀ a, 0 ≤ distOf o a → Grf.Walk (adj G) (distOf o a).toNat a t
  top : ∀ a, distOf o a ≤ d + 1
  low : ∀ a, isNode G a → ∀ b ∈ adj G a, 0 ≤ distOf o b → distOf o b < d → 0 ≤ distOf o a ∧ distOf o a ≤ distOf o b + 1
  proc : ∀ a b, P a b → distOf o b = d → 0 ≤ distOf o a
  chain : ∀ a, ∀ m, 0 ≤ m → m ≤ distOf o a → ∃ b, isNode G b ∧ distOf o b = m
theorem DI.imp {G : List (List Int)} {t : Int} {d : Nat} {o : List Int} {P Q : Int → Int → Prop} (h : DI G t d o P) (hQ : ∀ a b, Q a b → P a b) : DI G t d o Q :=
  ⟨h.len, h.zero, h.neg, h.walk, h.top, h.low, fun a b hq => h.proc a b (hQ a b hq), h.chain⟩
theorem DI.next {G : List (List Int)} {t : Int} {d : Nat} {o : List Int} (h : DI G t d o fun a b => isNode G a ∧ b ∈ adj G a) : DI G t (d + 1) o fun _ _ => False := by
  refine ⟨h.len, h.zero, h.neg, h.walk, fun a => ?_, fun a ha b hb h0 hlt => ?_, fun _ _ hf => hf.elim, h.chain⟩
  · have := h.top a; omega
  · by_cases e : distOf o b = d
    · have h1 := h.proc a b ⟨ha, hb⟩ e
      have h2 := h.top a
      omega
    · exact h.low a ha b hb h0 (by omega)
theorem DI.put {G : List (List Int)} {t : Int} {d : Nat} {o : List Int} {P : Int → Int → Prop} {a b : Int} (h : DI G t d o P) (ha : isNode G a) (hb : b ∈ adj G a) (hneg : distOf o a < 0) (hd : distOf o b = d) : DI G t d (o.set a.toNat ((d : Int) + 1)) fun x y => P x y ∨ (x = a) := by
  have ha' := ha
  unfold isNode at ha'
  have hset := distOf_set o a ((d : Int) + 1) ha'.1 (by rw [h.len]; exact ha'.2)
  have hne : ∀ x, 0 ≤ distOf o x → x ≠ a := fun x hx e => by rw [e] at hx; omega
  refine ⟨by rw [List.length_set]; exact h.len, ?_, fun x hx => ?_, fun x hx => ?_, fun x => ?_, fun x hx y hy h0 hlt => ?_, fun x y hp hy => ?_, fun x m h0 hm => ?_⟩
  · rw [hset, Grf.put_other _ _ (hne t (by rw [h.zero]; omega))]; exact h.zero
  · rw [hset] at hx ⊢
    by_cases e : x = a
    · rw [e, Grf.put_same] at hx; omega
    · rw [Grf.put_other _ _ e] at hx ⊢; exact h.neg x hx
  · rw [hset] at hx ⊢
    by_cases e : x = a
    · rw [e, Grf.put_same, show ((d : Int) + 1).toNat = d + 1 by omega]
      have := h.walk b (by omega)
      rw [hd, show ((d : Int)).toNat = d by omega] at this
      exact .cons hb this
    · rw [Grf.put_other _ _ e] at hx ⊢; exact h.walk x hx
  · rw [hset]
    by_cases e : x = a
    · rw [e, Grf.put_same]; omega
    · rw [Grf.put_other _ _ e]; exact h.top x
  · rw [hset] at h0 hlt ⊢
    have ey : y ≠ a := fun e => by rw [e, Grf.put_same] at hlt; omega
    rw [Grf.put_other _ _ ey] at h0 hlt ⊢
    have h1 := h.low x hx y hy h0 hlt
    rw [Grf.put_other _ _ (hne x h1.1)]
    exact h1
  · rw [hset] at hy ⊢
    by_cases e : x = a
    · rw [e, Grf.put_same]; omega
    · rw [Grf.put_other _ _ e]
      have ey : y ≠ a := fun e2 => by rw [e2, Grf.put_same] at hy; omega
      rw [Grf.put_other _ _ ey] at hy
      exact h.proc x y (hp.resolve_right e) hy
  · rw [hset] at hm ⊢
    have key : ∀ z, 0 ≤ distOf o z → m ≤ distOf o z → ∃ c, isNode G c ∧ Grf.put (distOf o) a ((d : Int) + 1) c = m := fun z hz hzm => by
      obtain ⟨c, h1, h2⟩ := h.chain z m h0 hzm
      exact ⟨c, h1, by rw [Grf.put_other _ _ (hne c (by omega))]; exact h2⟩
    by_cases e : x = a
    · rw [e, Grf.put_same] at hm
      by_cases em : m = (d : Int) + 1
      · exact ⟨a, ha, by rw [Grf.put_same, em]⟩
      · exact key b (by omega) (by omega)
    · rw [Grf.put_other _ _ e] at hm
      exact key x (by omega) hm
theorem DI.far {G : List (List Int)} {t : Int} {o : List Int} (hG : okG G) (h : DI G t G.length o fun _ _ => False) : Grf.Far (adj G) (nodes G) t (distOf o) := by
  refine ⟨h.zero, fun a _ => h.neg a, fun a _ => h.walk a, fun a ha b hb h0 => h.low a ((mem_nodes G a).1 ha) b hb h0 ?_⟩
  have h1 := nodup_len ((List.range ((distOf o b).toNat + 1)).map fun (i : Nat) => (i : Int)) ((nodes G).map (distOf o)) (by
    unfold List.Nodup
    rw [List.pairwise_map]
    exact List.nodup_range.imp (fun h e => h (by omega))) (fun x hx => by
    obtain ⟨i, hi, rfl⟩ := List.mem_map.1 hx
    rw [List.mem_range] at hi
    obtain ⟨c, h2, h3⟩ := h.chain b (i : Int) (by omega) (by omega)
    exact List.mem_map.2 ⟨c, (mem_nodes G c).2 h2, h3⟩)
  rw [List.length_map, List.length_map, List.length_range, nodes_len] at h1
  omega
theorem DI.start {G : List (List Int)} {t : Int} (ht : isNode G t) : DI G t 0 ((List.replicate G.length (-1)).set t.toNat 0) fun _ _ => False := by
  have ht' := ht
  unfold isNode at ht'
  have hset : distOf ((List.replicate G.length (-1)).set t.toNat 0) = Grf.put (fun _ => -1) t 0 := by
    rw [distOf_set _ t 0 ht'.1 (by simp; exact ht'.2), distOf_neg]
  have h0 : ∀ a, 0 ≤ Grf.put (fun _ => -1) t 0 a → a = t := fun a ha => Classical.byContradiction fun e => by rw [Grf.put_other _ _ e] at ha; omega
  refine ⟨by simp, ?_, fun a ha => ?_, fun a ha => ?_, fun a => ?_, fun a ha b hb h1 h2 => ?_, fun _ _ hf => hf.elim, fun a m h1 h2 => ?_⟩
  · rw [hset, Grf.put_same]
  · rw [hset] at ha ⊢
    by_cases e : a = t
    · rw [e, Grf.put_same] at ha; omega
    · rw [Grf.put_other _ _ e]
  · rw [hset] at ha ⊢
    rw [h0 a ha, Grf.put_same]; exact .zero t
  · rw [hset]
    by_cases e : a = t
    · rw [e, Grf.put_same]; omega
    · rw [Grf.put_other _ _ e]; omega
  · rw [hset] at h1 h2; omega
  · rw [hset] at h2 ⊢
    by_cases e : a = t
    · rw [e, Grf.put_same] at h2
      exact ⟨t, ht, by rw [Grf.put_same]; omega⟩
    · rw [Grf.put_other _ _ e] at h2; omega

/-- The distances to t, as a list. -/
def farL (G : List (List Int)) (t : Int) (r : List Int) : Prop := r.length = G.length ∧ Grf.Far (adj G) (nodes G) t (distOf r)
theorem farL.uniq {G : List (List Int)} (hG : okG G) {t : Int} {r s : List Int} (hr : farL G t r) (hs : farL G t s) : r = s := by
  refine distOf_ext (by rw [hr.1, hs.1]) fun x h0 h1 => ?_
  rw [hr.1] at h1
  exact hr.2.uniq (okG.cl hG) hs.2 x ((mem_nodes G x).2 ⟨h0, h1⟩)

theorem dist_l3 {G : List (List Int)} (hG : okG G) (hs : short G) {t : Int} (d : Nat) (hd : d < 70000) (i : Nat) (hi : i < G.length) (P : Int → Int → Prop) (R : List Int → Prop)
    (hK : ∀ o, DI G t d o (fun x y => P x y ∨ (x = i ∧ y ∈ G[i])) → ∃ r, R r ∧ Ev (fun k => burnishref06_Distances.l2 k o (d : Int) G (G.length : Int) ((i + 1 : Nat) : Int) G) r) :
    ∀ (e j : Nat) (o : List Int), j + e = G[i].length → DI G t d o (fun x y => P x y ∨ (x = i ∧ y ∈ G[i].take j)) →
      ∃ r, R r ∧ Ev (fun k => burnishref06_Distances.l3 k o (d : Int) (i : Int) G (G.length : Int) (i : Int) G[i] (G[i].length : Int) (j : Int) G) r := by
  have hr := hs.2 _ (List.getElem_mem hi)
  have hin : isNode G (i : Int) := by unfold isNode; omega
  intro e
  induction e with
  | zero =>
    intro j o hj h
    rw [List.take_of_length_le (by omega)] at h
    obtain ⟨r, h1, h2⟩ := hK o h
    refine ⟨r, h1, Ev.suc (fun k => ?_) h2⟩
    simp only [burnishref06_Distances.l3]
    rw [if_neg (by omega), w64 i G.length hi hs.1]
  | succ e ih =>
    intro j o hj h
    have hlt : j < G[i].length := by omega
    have hmn : isNode G G[i][j] := hG.row (List.getElem_mem hi) (List.getElem_mem hlt)
    unfold isNode at hmn
    have hol := h.len
    have hedge : G[i][j] ∈ adj G (i : Int) := by rw [adj_nat G i hi]; exact List.getElem_mem hlt
    have hsplit : ∀ x y, (P x y ∨ (x = (i : Int) ∧ y ∈ G[i].take (j + 1))) → (P x y ∨ (x = (i : Int) ∧ y ∈ G[i].take j)) ∨ (x = (i : Int) ∧ y = G[i][j]) := by
      intro x y h1
      rw [List.take_succ_eq_append_getElem hlt, List.mem_append, List.mem_singleton] at h1
      rcases h1 with h1 | ⟨h1, h2 | h2⟩
      · exact .inl (.inl h1)
      · exact .inl (.inr ⟨h1, h2⟩)
      · exact .inr ⟨h1, h2⟩
    have h0 : rd o (i : Int) = distOf o (i : Int) := distOf_rd o _ (by omega) (by omega)
    have h1 : rd o G[i][j] = distOf o G[i][j] := distOf_rd o _ hmn.1 (by omega)
    by_cases ei : distOf o (i : Int) < 0
    · by_cases ej : distOf o G[i][j] = d
      · have hput := h.put hin hedge ei ej
        obtain ⟨r, g1, g2⟩ := ih (j + 1) (o.set i ((d : Int) + 1)) (by omega) (by
          rw [Int.toNat_natCast] at hput
          refine hput.imp fun x y hp => ?_
          rcases hsplit x y hp with hp | hp
          · exact .inl hp
          · exact .inr hp.1)
        refine ⟨r, g1, Ev.suc (fun k => ?_) g2⟩
        simp only [burnishref06_Distances.l3]
        rw [if_pos (by omega), if_pos (by omega), if_pos (by omega), if_pos (by omega), if_pos (by omega), h0, if_pos ei, rd_get _ j hlt, if_pos (by omega), if_pos (by omega), h1, if_pos ej, w64 j _ hlt hr, w64 d 70000 hd (by omega), Int.toNat_natCast]
        rfl
      · obtain ⟨r, g1, g2⟩ := ih (j + 1) o (by omega) ⟨h.len, h.zero, h.neg, h.walk, h.top, h.low, fun x y hp hy => by
          rcases hsplit x y hp with hp | ⟨rfl, rfl⟩
          · exact h.proc x y hp hy
          · exact absurd hy ej, h.chain⟩
        refine ⟨r, g1, Ev.suc (fun k => ?_) g2⟩
        simp only [burnishref06_Distances.l3]
        rw [if_pos (by omega), if_pos (by omega), if_pos (by omega), if_pos (by omega), if_pos (by omega), h0, if_pos ei, rd_get _ j hlt, if_pos (by omega), if_pos (by omega), h1, if_neg ej, w64 j _ hlt hr]
    · obtain ⟨r, g1, g2⟩ := ih (j + 1) o (by omega) ⟨h.len, h.zero, h.neg, h.walk, h.top, h.low, fun x y hp hy => by
        rcases hsplit x y hp with hp | ⟨rfl, rfl⟩
        · exact h.proc x y hp hy
        · omega, h.chain⟩
      refine ⟨r, g1, Ev.suc (fun k => ?_) g2⟩
      simp only [burnishref06_Distances.l3]
      rw [if_pos (by omega), if_pos (by omega), if_pos (by omega), if_pos (by omega), if_pos (by omega), h0, if_neg ei, w64 j _ hlt hr]
theorem dist_l2 {G : List (List Int)} (hG : okG G) (hs : short G) {t : Int} (d : Nat) (hd : d < 70000) (R : List Int → Prop)
    (hK : ∀ o, DI G t d o (fun a b => isNode G a ∧ b ∈ adj G a) → ∃ r, R r ∧ Ev (fun k => burnishref06_Distances.l1 k o ((d + 1 : Nat) : Int) G) r) :
    ∀ (e i : Nat) (o : List Int), i + e = G.length → DI G t d o (fun x y => isNode G x ∧ x < i ∧ y ∈ adj G x) → ∃ r, R r ∧ Ev (fun k => burnishref06_Distances.l2 k o (d : Int) G (G.length : Int) (i : Int) G) r := by
  intro e
  induction e with
  | zero =>
    intro i o hi h
    obtain ⟨r, h1, h2⟩ := hK o (h.imp fun a b hp => ⟨hp.1, by have := hp.1.2; omega, hp.2⟩)
    refine ⟨r, h1, Ev.suc (fun k => ?_) h2⟩
    simp only [burnishref06_Distances.l2]
    rw [if_neg (by omega), w64 d 70000 hd (by omega)]
  | succ e ih =>
    intro i o hi h
    have hlt : i < G.length := by omega
    obtain ⟨r, h1, h2⟩ := dist_l3 hG hs d hd i hlt (fun x y => isNode G x ∧ x < i ∧ y ∈ adj G x) R (fun o' h' => ih (i + 1) o' (by omega) (h'.imp fun x y hp => by
      by_cases e : x = (i : Int)
      · refine .inr ⟨e, ?_⟩
        have := hp.2.2
        rw [e, adj_nat G i hlt] at this
        exact this
      · exact .inl ⟨hp.1, by have := hp.2.1; omega, hp.2.2⟩)) G[i].length 0 o (by omega) (h.imp fun x y hp => by
      rcases hp with hp | ⟨_, hp⟩
      · exact hp
      · simp at hp)
    refine ⟨r, h1, Ev.suc (fun k => ?_) h2⟩
    simp only [burnishref06_Distances.l2]
    rw [if_pos (by omega), if_pos (by omega), if_pos (by omega), rd1_get G i hlt]
    rfl
theorem dist_l1 {G : List (List Int)} (hG : okG G) (hs : short G) {t : Int} : ∀ (e d : Nat) (o : List Int), d + e = G.length → DI G t d o (fun _ _ => False) → ∃ r, farL G t r ∧ Ev (fun k => burnishref06_Distances.l1 k o (d : Int) G) r := by
  have hl := okG.len hG
  intro e
  induction e with
  | zero =>
    intro d o hd h
    obtain rfl : d = G.length := by omega
    refine ⟨o, ⟨h.len, h.far hG⟩, Ev.suc (fun k => ?_) (Ev.ret o)⟩
    simp only [burnishref06_Distances.l1]
    rw [if_neg (by have := h.len; omega)]
  | succ e ih =>
    intro d o hd h
    obtain ⟨r, h1, h2⟩ := dist_l2 hG hs (t := t) d (by omega) (farL G t) (fun o' h' => ih (d + 1) o' (by omega) h'.next) G.length 0 o (by omega) (h.imp fun a b hp => by have := hp.1.1; have := hp.2.1; omega)
    refine ⟨r, h1, Ev.suc (fun k => ?_) h2⟩
    simp only [burnishref06_Distances.l1]
    rw [if_pos (by have := h.len; omega)]
    rfl
theorem dist_l0 {G : List (List Int)} {t : Int} (ht : isNode G t) (hl : G.length ≤ 65536) (r : List Int) (hK : Ev (fun k => burnishref06_Distances.l1 k ((List.replicate G.length (-1)).set t.toNat 0) 0 G) r) :
    ∀ (e i : Nat) (l : List Int), i + e = G.length → l.length = G.length → (∀ j (h : j < l.length), j < i → l[j] = -1) → Ev (fun k => burnishref06_Distances.l0 k t l (G.length : Int) (i : Int) G) r := by
  unfold isNode at ht
  intro e
  induction e with
  | zero =>
    intro i l hi hll hg
    have : l = List.replicate G.length (-1) := List.ext_getElem (by simp [hll]) fun j h1 h2 => by rw [hg j h1 (by omega)]; simp
    subst this
    refine Ev.suc (fun k => ?_) hK
    simp only [burnishref06_Distances.l0]
    rw [if_neg (by omega), if_pos ht.1, if_pos (by omega)]
  | succ e ih =>
    intro i l hi hll hg
    refine Ev.suc (fun k => ?_) (ih (i + 1) (l.set i (-1)) (by omega) (by simp [hll]) (fun j h1 h2 => ?_))
    · simp only [burnishref06_Distances.l0]
      rw [if_pos (by omega), if_pos (by omega), if_pos (by omega), w64 i G.length (by omega) (by omega), Int.toNat_natCast]
    · rw [List.getElem_set]
      by_cases e2 : i = j
      · rw [if_pos e2]
      · rw [if_neg e2]
        exact hg j (by simpa using h1) (by omega)
theorem rdist_f (G : List (List Int)) (hG : okG G) (hs : short G) (t : Int) (ht : isNode G t) : ∃ r, farL G t r ∧ Ev (fun k => burnishref06_Distances.f k G t) r := by
  have hl := okG.len hG
  obtain ⟨r, h1, h2⟩ := dist_l1 hG hs G.length 0 _ (by omega) (DI.start ht)
  refine ⟨r, h1, ?_⟩
  have := dist_l0 ht hl r h2 G.length 0 (List.replicate G.length 0) (by omega) (by simp) (fun j _ h => by omega)
  unfold burnishref06_Distances.f
  refine Ev.of (fun k => ?_) this
  rw [if_pos (by omega), if_pos (by omega), Option.bind_some, Int.toNat_natCast, List.length_replicate]
  rfl

/-! ### ShortestPath. -/
/-- The shortest path by the distances r. -/
def pathL (G : List (List Int)) (r : List Int) (a : Int) : List Int := if distOf r a < 0 then [] else Grf.path (adj G) (distOf r) (distOf r a).toNat a
theorem short_l1 {G : List (List Int)} (hG : okG G) (hs : short G) {t : Int} (r : List Int) (hr : farL G t r) (x : Int) (hx : isNode G x) (hpos : 0 < distOf r x) (hbig : distOf r x < 70000) (out : List Int) (hout : out.length < 70000) (res : List Int) (row : List Int) (hrow : adj G x = row)
    (hK : Ev (fun k => burnishref06_ShortestPath.l0 k (Grf.near (distOf r) (distOf r x) row (-1)) t r (out ++ [Grf.near (distOf r) (distOf r x) row (-1)]) G) res) :
    ∀ (e j : Nat) (nx : Int), j + e = row.length → Grf.near (distOf r) (distOf r x) (row.drop j) nx = Grf.near (distOf r) (distOf r x) row (-1) →
      Ev (fun k => burnishref06_ShortestPath.l1 k x t r out nx row (row.length : Int) (j : Int) G) res := by
  have hrl : row.length < 4611686018427387904 := by rw [← hrow]; exact hs.2 _ (adj_mem hx)
  have hx' := hx
  unfold isNode at hx'
  have hlen := hr.1
  intro e
  induction e with
  | zero =>
    intro j nx hj hn
    rw [List.drop_eq_nil_of_le (by omega), Grf.near] at hn
    rw [hn]
    refine Ev.suc (fun k => ?_) hK
    simp only [burnishref06_ShortestPath.l1]
    rw [if_neg (by omega), if_pos (by omega)]
  | succ e ih =>
    intro j nx hj hn
    have hlt : j < row.length := by omega
    have hmn : isNode G row[j] := hG.adj hx (by rw [hrow]; exact List.getElem_mem hlt)
    unfold isNode at hmn
    rw [List.drop_eq_getElem_cons hlt, Grf.near] at hn
    have h0 : rd r row[j] = distOf r row[j] := distOf_rd r _ hmn.1 (by omega)
    have h1 : rd r x = distOf r x := distOf_rd r _ hx'.1 (by omega)
    have hw : wrap64 (distOf r x - 1) = distOf r x - 1 := by unfold wrap64; omega
    by_cases hge : distOf r row[j] ≥ 0
    · by_cases hd : distOf r row[j] = distOf r x - 1
      · by_cases hneg : nx < 0
        · rw [if_pos ⟨hd, .inl hneg⟩] at hn
          refine Ev.suc (fun k => ?_) (ih (j + 1) _ (by omega) hn)
          simp only [burnishref06_ShortestPath.l1]
          rw [if_pos (by omega), if_pos (by omega), if_pos (by omega), rd_get _ j hlt, if_pos (by omega), if_pos (by omega), h0, if_pos hge, if_pos (by omega), if_pos (by omega), h1, hw, if_pos hd, if_pos hneg, w64 j _ hlt hrl]
        · by_cases hless : row[j] < nx
          · rw [if_pos ⟨hd, .inr hless⟩] at hn
            refine Ev.suc (fun k => ?_) (ih (j + 1) _ (by omega) hn)
            simp only [burnishref06_ShortestPath.l1]
            rw [if_pos (by omega), if_pos (by omega), if_pos (by omega), rd_get _ j hlt, if_pos (by omega), if_pos (by omega), h0, if_pos hge, if_pos (by omega), if_pos (by omega), h1, hw, if_pos hd, if_neg hneg, if_pos hless, w64 j _ hlt hrl]
          · rw [if_neg (fun h => h.2.elim hneg hless)] at hn
            refine Ev.suc (fun k => ?_) (ih (j + 1) _ (by omega) hn)
            simp only [burnishref06_ShortestPath.l1]
            rw [if_pos (by omega), if_pos (by omega), if_pos (by omega), rd_get _ j hlt, if_pos (by omega), if_pos (by omega), h0, if_pos hge, if_pos (by omega), if_pos (by omega), h1, hw, if_pos hd, if_neg hneg, if_neg hless, w64 j _ hlt hrl]
      · rw [if_neg (fun h => hd h.1)] at hn
        refine Ev.suc (fun k => ?_) (ih (j + 1) _ (by omega) hn)
        simp only [burnishref06_ShortestPath.l1]
        rw [if_pos (by omega), if_pos (by omega), if_pos (by omega), rd_get _ j hlt, if_pos (by omega), if_pos (by omega), h0, if_pos hge, if_pos (by omega), if_pos (by omega), h1, hw, if_neg hd, w64 j _ hlt hrl]
    · rw [if_neg (fun h => by have := h.1; omega)] at hn
      refine Ev.suc (fun k => ?_) (ih (j + 1) _ (by omega) hn)
      simp only [burnishref06_ShortestPath.l1]
      rw [if_pos (by omega), if_pos (by omega), if_pos (by omega), rd_get _ j hlt, if_pos (by omega), if_pos (by omega), h0, if_neg hge, w64 j _ hlt hrl]
theorem short_l0 {G : List (List Int)} (hG : okG G) (hs : short G) {t : Int} (ht : isNode G t) (r : List Int) (hr : farL G t r) : ∀ (d : Nat) (x : Int) (out : List Int), isNode G x → distOf r x = d → out.length + d < 70000 →
    Ev (fun k => burnishref06_ShortestPath.l0 k x t r out G) (out ++ (Grf.path (adj G) (distOf r) d x).tail) := by
  intro d
  induction d with
  | zero =>
    intro x out hx hd hb
    have hxt : x = t := by
      have h1 := hr.2.walk x ((mem_nodes G x).2 hx) (by omega)
      rw [hd] at h1
      cases h1
      rfl
    refine Ev.suc (h := fun _ => some (out ++ (Grf.path (adj G) (distOf r) 0 x).tail)) (fun k => ?_) (Ev.ret _)
    simp only [burnishref06_ShortestPath.l0]
    rw [if_pos hxt]
    simp [Grf.path]
  | succ d ih =>
    intro x out hx hd hb
    have hxt : x ≠ t := fun e => by rw [e, hr.2.zero] at hd; omega
    have hnx := hr.2.next (okG.cl hG) (fun a ha => ((mem_nodes G a).1 ha).1) ((mem_nodes G x).2 hx) (by omega)
    have hnn : isNode G (Grf.near (distOf r) (distOf r x) (adj G x) (-1)) := hG.adj hx hnx.1
    have h1 := ih _ (out ++ [Grf.near (distOf r) (distOf r x) (adj G x) (-1)]) hnn (by rw [hnx.2.1, hd]; omega) (by simp; omega)
    have hx' := hx
    unfold isNode at hx'
    have h2 := short_l1 hG hs r hr x hx (by omega) (by omega) out (by omega) _ (adj G x) rfl h1 (adj G x).length 0 (-1) (by omega) (by rw [List.drop_zero])
    have e1 : (out ++ [Grf.near (distOf r) (distOf r x) (adj G x) (-1)]) ++ (Grf.path (adj G) (distOf r) d (Grf.near (distOf r) (distOf r x) (adj G x) (-1))).tail = out ++ (Grf.path (adj G) (distOf r) (d + 1) x).tail := by
      rw [Grf.path, List.tail_cons, List.append_assoc]
      congr 1
      cases d with
      | zero => rfl
      | succ d => rfl
    rw [e1] at h2
    refine Ev.suc (fun k => ?_) h2
    simp only [burnishref06_ShortestPath.l0]
    rw [if_neg hxt, if_pos hx'.1, if_pos hx'.2]
    rfl
theorem Far_lt {G : List (List Int)} {t : Int} {r : List Int} (hG : okG G) (hr : farL G t r) {a : Int} (ha : isNode G a) : distOf r a < 66000 := by
  have hl := okG.len hG
  obtain ⟨s, ⟨hs1, hs2⟩⟩ : ∃ s : List Int, s = r ∧ True := ⟨r, rfl, trivial⟩
  -- distances are below the number of nodes: all lesser distances occur
  have hch : ∀ (k : Nat) (a : Int), isNode G a → distOf r a = k → ∀ m : Nat, m ≤ k → ∃ b, isNode G b ∧ distOf r b = m := by
    intro k
    induction k with
    | zero => intro a ha hd m hm; exact ⟨a, ha, by rw [hd]; omega⟩
    | succ k ih =>
      intro a ha hd m hm
      by_cases e : m = k + 1
      · exact ⟨a, ha, by rw [hd, e]⟩
      · have hnx := hr.2.next (okG.cl hG) (fun a ha => ((mem_nodes G a).1 ha).1) ((mem_nodes G a).2 ha) (by omega)
        exact ih _ (hG.adj ha hnx.1) (by rw [hnx.2.1, hd]; omega) m (by omega)
  by_cases h : distOf r a < 0
  · omega
  · have h1 := nodup_len ((List.range ((distOf r a).toNat + 1)).map fun (i : Nat) => (i : Int)) ((nodes G).map (distOf r)) (by
      unfold List.Nodup
      rw [List.pairwise_map]
      exact List.nodup_range.imp (fun h e => h (by omega))) (fun x hx => by
      obtain ⟨i, hi, rfl⟩ := List.mem_map.1 hx
      rw [List.mem_range] at hi
      obtain ⟨c, h2, h3⟩ := hch (distOf r a).toNat a ha (by omega) i (by omega)
      exact List.mem_map.2 ⟨c, (mem_nodes G c).2 h2, h3⟩)
    rw [List.length_map, List.length_map, List.length_range, nodes_len] at h1
    omega
/-- What ShortestPath answers. -/
def spath (G : List (List Int)) (a b : Int) (p : List Int) : Prop := (chk G = 0 ∧ isNode G a ∧ isNode G b ∧ ∃ r, farL G b r ∧ p = pathL G r a) ∨ (¬ (chk G = 0 ∧ isNode G a ∧ isNode G b) ∧ p = [])
theorem spath.uniq {G : List (List Int)} {a b : Int} {p q : List Int} (hp : spath G a b p) (hq : spath G a b q) : p = q := by
  rcases hp with ⟨h1, h2, h3, r, h4, rfl⟩ | ⟨h1, rfl⟩
  · rcases hq with ⟨_, _, _, s, h5, rfl⟩ | ⟨h5, rfl⟩
    · rw [farL.uniq h1 h4 h5]
    · exact absurd ⟨h1, h2, h3⟩ h5
  · rcases hq with ⟨h2, h3, h4, s, h5, rfl⟩ | ⟨h5, rfl⟩
    · exact absurd ⟨h2, h3, h4⟩ h1
    · rfl
theorem path_cons (ad : Int → List Int) (f : Int → Int) (k : Nat) (x : Int) : x :: (Grf.path ad f k x).tail = Grf.path ad f k x := by cases k <;> rfl
theorem rpath_f (G : List (List Int)) (hs : short G) (a b : Int) : ∃ p, spath G a b p ∧ Ev (fun k => burnishref06_ShortestPath.f k G a b) p := by
  by_cases h : chk G = 0 ∧ isNode G a ∧ isNode G b
  · obtain ⟨hG, ha, hb⟩ := h
    obtain ⟨r, hr, he⟩ := rdist_f G hG hs b hb
    refine ⟨pathL G r a, .inl ⟨hG, ha, hb, r, hr, rfl⟩, ?_⟩
    have ha' := ha
    unfold isNode at ha'
    have hlen := hr.1
    have hal : a < (r.length : Int) := by rw [hlen]; exact ha'.2
    have h0 : rd r a = distOf r a := distOf_rd r _ ha'.1 hal
    have hlt := Far_lt hG hr ha
    have hj : Ev (fun k => burnishref06_ShortestPath.j0 k a b false G) (pathL G r a) := by
      refine Ev.suc (h := fun k => (burnishref06_Distances.f k G b).bind fun t289 => (if 0 ≤ a then (if a < (t289.length : Int) then (if (rd t289 a) < 0 then (some ([] : List Int)) else (burnishref06_ShortestPath.l0 k a b t289 (([a] : List Int)) G)) else (none)) else (none))) (fun k => by simp only [burnishref06_ShortestPath.j0]; rfl) (Ev.bind he ?_)
      unfold pathL
      by_cases hneg : distOf r a < 0
      · rw [if_pos hneg]
        refine Ev.of (fun k => ?_) (Ev.ret _)
        rw [if_pos ha'.1, if_pos (by omega), h0, if_pos hneg]
      · rw [if_neg hneg]
        have h1 := short_l0 hG hs hb r hr (distOf r a).toNat a [a] ha (by omega) (by rw [List.length_singleton]; omega)
        rw [List.singleton_append, path_cons] at h1
        refine Ev.of (fun k => ?_) h1
        rw [if_pos ha'.1, if_pos (by omega), h0, if_neg hneg]
    unfold burnishref06_ShortestPath.f
    refine Ev.bind (ok_f G hs a) ?_
    refine Ev.of (h := fun k => (burnishref06_ok.f k G b).bind fun t288 => burnishref06_ShortestPath.j0 k a b (!t288) G) (fun k => by rw [if_pos (by simpa using ⟨hG, ha⟩)]) (Ev.bind (ok_f G hs b) ?_)
    rw [decide_eq_true (⟨hG, hb⟩ : chk G = 0 ∧ isNode G b)]
    exact hj
  · refine ⟨[], .inr ⟨h, rfl⟩, ?_⟩
    have hj : Ev (fun k => burnishref06_ShortestPath.j0 k a b true G) ([] : List Int) := by
      refine Ev.suc (h := fun _ => some []) (fun k => by simp only [burnishref06_ShortestPath.j0]; rfl) (Ev.ret _)
    unfold burnishref06_ShortestPath.f
    refine Ev.bind (ok_f G hs a) ?_
    by_cases ha : chk G = 0 ∧ isNode G a
    · have hb : ¬ (chk G = 0 ∧ isNode G b) := fun hb => h ⟨ha.1, ha.2, hb.2⟩
      refine Ev.of (h := fun k => (burnishref06_ok.f k G b).bind fun t288 => burnishref06_ShortestPath.j0 k a b (!t288) G) (fun k => by rw [if_pos (by simpa using ha)]) (Ev.bind (ok_f G hs b) ?_)
      rw [decide_eq_false hb]
      exact hj
    · exact Ev.of (fun k => by rw [if_neg (by simpa using ha)]) hj
end Go.Proofs.Ytjkclhpibielfaa
