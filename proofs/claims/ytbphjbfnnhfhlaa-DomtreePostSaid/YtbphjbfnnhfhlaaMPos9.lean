import Derived.WalkSmall
import Derived.StillTail
import Derived.Deep.Draws
import Derived.Laws.Entries
import Derived.Lib.TrailingZeros
import Derived.Test.YtbphjbfnnhfhlaaRows
import Derived.WalkKit
import Derived.WalkSpells
import Derived.WalkLawsBesides
import Derived.StillTailTactics
import Derived.Deep.QuietTactic
import Derived.BigQuiet
import Derived.Deep.RegionHeld3
import Derived.Deep.RegionLaw
import Derived.RegionTactic
import Derived.Deep.LoopGhost
import Derived.WalkMore
import Derived.Test.YtbphjbfnnhfhlaaMPos8
section
/- The reference's search and reachability in plain lists. -/
set_option linter.unusedVariables false
set_option linter.unusedSimpArgs false
namespace Go.Proofs.Ytbphjbfnnhfhlaa
open Go.RowKit Go.Proofs.YtbphjbfnnhfhlaaW.PrintWords Go.Proofs.Ytbphjbfnnhfhlaa.PDigraphTells Grf

def adj (G : List (List Int)) (a : Int) : List Int := rd_L1 G a
def nodes (G : List (List Int)) : List Int := (List.range G.length).map fun (i : Nat) => (i : Int)
theorem mem_nodes (G : List (List Int)) (a : Int) : a ∈ nodes G ↔ isNode G a := by
  unfold nodes isNode
  rw [List.mem_map]
  constructor
  · rintro ⟨i, hi, rfl⟩
    rw [List.mem_range] at hi
    omega
  · intro h
    exact ⟨a.toNat, List.mem_range.2 (by omega), by omega⟩
theorem nodes_len (G : List (List Int)) : (nodes G).length = G.length := by unfold nodes; simp
theorem adj_eq {G : List (List Int)} {a : Int} (h : isNode G a) : ∃ (hi : a.toNat < G.length), adj G a = G[a.toNat] := by
  unfold isNode at h
  have hi : a.toNat < G.length := by omega
  exact ⟨hi, by unfold adj; simp [rd_L1, hi]⟩
theorem adj_mem {G : List (List Int)} {a : Int} (h : isNode G a) : adj G a ∈ G := by
  obtain ⟨hi, e⟩ := adj_eq h
  rw [e]
  exact List.getElem_mem hi
theorem adj_nat (G : List (List Int)) (i : Nat) (h : i < G.length) : adj G (i : Int) = G[i] := rd1_get G i h
/-- A graph that Check passes. -/
def okG (G : List (List Int)) : Prop := chk G = 0
theorem okG.len {G : List (List Int)} (h : okG G) : G.length ≤ 65536 := (chk_ok.1 h).1
theorem okG.row {G : List (List Int)} (h : okG G) {l : List Int} (hl : l ∈ G) {s : Int} (hs : s ∈ l) : isNode G s := (chk_ok.1 h).2 l hl s hs
theorem okG.adj {G : List (List Int)} (h : okG G) {a b : Int} (ha : isNode G a) (hb : b ∈ adj G a) : isNode G b := h.row (adj_mem ha) hb
theorem okG.cl {G : List (List Int)} (h : okG G) : ∀ a ∈ nodes G, ∀ b ∈ Go.Proofs.Ytbphjbfnnhfhlaa.adj G a, b ∈ nodes G := fun a ha b hb => (mem_nodes G b).2 (h.adj ((mem_nodes G a).1 ha) hb)

def metOf (l : List Bool) : Grf.Met := fun x => decide (0 ≤ x) && l.getD x.toNat false
theorem metOf_rd (l : List Bool) (x : Int) (h : 0 ≤ x) : rdOf false l x = metOf l x := by simp [metOf, rdOf, h]
theorem metOf_set (l : List Bool) (a : Int) (h0 : 0 ≤ a) (h : a < l.length) : metOf (l.set a.toNat true) = Grf.mark (metOf l) a := by
  funext x
  unfold metOf Grf.mark
  by_cases e : x = a
  · subst e
    have : x.toNat < l.length := by omega
    simp [h0, this]
  · by_cases hx : 0 ≤ x
    · have : a.toNat ≠ x.toNat := by omega
      simp [e, hx, List.getD_eq_getElem?_getD, List.getElem?_set_ne this]
    · simp [e, hx]
theorem metOf_false (n : Nat) : metOf (List.replicate n false) = fun _ => false := by
  funext x
  unfold metOf
  rw [List.getD_eq_getElem?_getD]
  by_cases h : x.toNat < n
  · simp [h]
  · rw [List.getElem?_eq_none (by simp; omega)]; simp
/-- The depth-first postorder. -/
def post (G : List (List Int)) (a : Int) : List Int := if chk G = 0 ∧ isNode G a then (visit (adj G) G.length a (fun _ => false) []).2 else []
theorem cnt_all (G : List (List Int)) : cnt (nodes G) (fun _ => false) = G.length := by
  unfold cnt
  rw [List.filter_eq_self.2 (by simp), nodes_len]
theorem post_len (G : List (List Int)) (a : Int) : (post G a).length ≤ G.length := by
  unfold post
  by_cases h : chk G = 0 ∧ isNode G a
  · rw [if_pos h]
    obtain ⟨nw, hf, _⟩ := visit_found (okG.cl h.1) G.length a (fun _ => false) [] (fun _ => True) ((mem_nodes G a).2 h.2) rfl (by rw [cnt_all]; exact Nat.le_refl _) (fun _ _ => trivial)
    rw [hf.eq, List.nil_append]
    rw [← nodes_len G]
    have key : ∀ (l m : List Int), l.Nodup → (∀ x ∈ l, x ∈ m) → l.length ≤ m.length := by
      intro l
      induction l with
      | nil => intro m _ _; simp
      | cons b l ih =>
        intro m hn hs
        have hb := hs b List.mem_cons_self
        rw [List.nodup_cons] at hn
        have := ih (m.erase b) hn.2 (fun x hx => (List.mem_erase_of_ne (fun e => hn.1 (by rw [← e]; exact hx))).2 (hs x (List.mem_cons_of_mem _ hx)))
        rw [List.length_erase_of_mem hb] at this
        have : 0 < m.length := List.length_pos_of_mem hb
        simp only [List.length_cons]; omega
    exact key nw (nodes G) hf.nd hf.inV
  · rw [if_neg h]; simp

theorem srev_l0 (l0 : List Int) (hl : l0.length ≤ 70000) : ∀ (d i : Nat) (l : List Int), i + d = l0.length → l.length = l0.length → (∀ j (h : j < l.length), l[j] = if j < i ∨ l0.length - 1 - i < j then l0.reverse.getD j 0 else l0.getD j 0) →
    Ev (fun k => slices_Reverse_int_int.l0 k l (i : Int) ((l0.length : Int) - 1 - i)) l0.reverse := by
  intro d
  induction d with
  | zero =>
    intro i l hi hll hg
    refine Ev.suc (h := fun _ => some l0.reverse) (fun k => ?_) (Ev.ret _)
    simp only [slices_Reverse_int_int.l0]
    rw [if_neg (by omega)]
    congr 1
    refine List.ext_getElem (by simp [hll]) fun j h1 h2 => ?_
    rw [hg j h1, if_pos (.inl (by omega))]
    simp only [List.getD_eq_getElem?_getD, List.getElem?_eq_getElem h2, Option.getD_some]
  | succ d ih =>
    intro i l hi hll hg
    by_cases hc : (i : Int) < (l0.length : Int) - 1 - i
    · have hi1 : i < l.length := by omega
      have hj1 : l0.length - 1 - i < l.length := by omega
      have ej : ((l0.length : Int) - 1 - i) = ((l0.length - 1 - i : Nat) : Int) := by omega
      refine Ev.suc (fun k => ?_) (ih (i + 1) ((l.set i (l[l0.length - 1 - i])).set (l0.length - 1 - i) l[i]) (by omega) (by simp [hll]) ?_)
      · simp only [slices_Reverse_int_int.l0]
        have e1 : wrap64 ((i : Int) + 1) = ((i + 1 : Nat) : Int) := w64 i l0.length (by omega) (by omega)
        have e2 : wrap64 (((l0.length : Int) - 1 - i) - 1) = (l0.length : Int) - 1 - ((i + 1 : Nat) : Int) := by unfold wrap64; omega
        rw [if_pos hc, if_pos (by omega), if_pos (by omega), if_pos (by omega), if_pos (by omega), e1, e2, ej, rd_get l _ hj1, rd_get l i hi1, Int.toNat_natCast, Int.toNat_natCast]
      · intro j hj
        simp only [List.length_set] at hj
        have hr : ∀ j, j < l0.length → l0.reverse.getD j 0 = l0.getD (l0.length - 1 - j) 0 := by
          intro j hj
          simp only [List.getD_eq_getElem?_getD]
          rw [List.getElem?_eq_getElem (by simpa using hj), List.getElem?_eq_getElem (show l0.length - 1 - j < l0.length by omega), List.getElem_reverse]
        rw [List.getElem_set, List.getElem_set]
        by_cases e1 : l0.length - 1 - i = j
        · subst e1
          rw [if_pos rfl, if_pos (.inr (by omega)), hg i hi1, if_neg (by omega), hr _ (by omega)]
          congr 1; omega
        · rw [if_neg e1]
          by_cases e2 : i = j
          · subst e2
            rw [if_pos rfl, if_pos (.inl (by omega)), hg _ hj1, if_neg (by omega), hr _ (by omega)]
          · rw [if_neg e2, hg j hj]
            by_cases e3 : j < i ∨ l0.length - 1 - i < j
            · rw [if_pos e3, if_pos (by omega)]
            · rw [if_neg e3, if_neg (by omega)]
    · refine Ev.suc (h := fun _ => some l0.reverse) (fun k => ?_) (Ev.ret _)
      simp only [slices_Reverse_int_int.l0]
      rw [if_neg hc]
      congr 1
      refine List.ext_getElem (by simp [hll]) fun j h1 h2 => ?_
      rw [hg j h1]
      have hjl : j < l0.length := by omega
      by_cases e3 : j < i ∨ l0.length - 1 - i < j
      · rw [if_pos e3]
        simp only [List.getD_eq_getElem?_getD, List.getElem?_eq_getElem h2, Option.getD_some]
      · rw [if_neg e3, List.getElem_reverse]
        simp only [List.getD_eq_getElem?_getD, List.getElem?_eq_getElem hjl, Option.getD_some]
        congr 1; omega
theorem srev_f (l : List Int) (hl : l.length ≤ 70000) : Ev (fun k => slices_Reverse_int_int.f k l) l.reverse := by
  unfold slices_Reverse_int_int.f
  have e : wrap64 ((l.length : Int) - 1) = (l.length : Int) - 1 - ((0 : Nat) : Int) := by unfold wrap64; omega
  rw [e]
  exact srev_l0 l hl l.length 0 l (by omega) rfl (fun j h => by rw [if_neg (by omega)]; simp [h])
end Go.Proofs.Ytbphjbfnnhfhlaa
end

section
/- The reference's Reachable, Distances and ShortestPath in plain lists. -/
set_option linter.unusedVariables false
set_option linter.unusedSimpArgs false
namespace Go.Proofs.Ytbphjbfnnhfhlaa
open Go.RowKit Go.Proofs.YtbphjbfnnhfhlaaW.PrintWords Go.Proofs.Ytbphjbfnnhfhlaa.PDigraphTells

end Go.Proofs.Ytbphjbfnnhfhlaa
end

section
/- The reference's Distances and ShortestPath in plain lists. -/
set_option linter.unusedVariables false
set_option linter.unusedSimpArgs false
namespace Go.Proofs.Ytbphjbfnnhfhlaa
open Go.RowKit Go.Proofs.YtbphjbfnnhfhlaaW.PrintWords Go.Proofs.Ytbphjbfnnhfhlaa.PDigraphTells

theorem nodup_len {α : Type} [BEq α] [LawfulBEq α] : ∀ (l m : List α), l.Nodup → (∀ x ∈ l, x ∈ m) → l.length ≤ m.length
  | [], _, _, _ => Nat.zero_le _
  | b :: l, m, hn, hs => by
    have hb := hs b List.mem_cons_self
    rw [List.nodup_cons] at hn
    have := nodup_len l (m.erase b) hn.2 (fun x hx => (List.mem_erase_of_ne (fun e => hn.1 (by rw [← e]; exact hx))).2 (hs x (List.mem_cons_of_mem _ hx)))
    rw [List.length_erase_of_mem hb] at this
    have : 0 < m.length := List.length_pos_of_mem hb
    simp only [List.length_cons]; omega
def distOf (l : List Int) : Int → Int := fun x => if 0 ≤ x ∧ x < l.length then l.getD x.toNat 0 else -1
theorem distOf_rd (l : List Int) (x : Int) (h0 : 0 ≤ x) (h : x < l.length) : rd l x = distOf l x := by
  unfold distOf rd; rw [if_pos ⟨h0, h⟩]
theorem distOf_get (l : List Int) (i : Nat) (h : i < l.length) : distOf l (i : Int) = l[i] := by
  rw [← distOf_rd l _ (by omega) (by omega), rd_get l i h]
theorem distOf_set (l : List Int) (a v : Int) (h0 : 0 ≤ a) (h : a < l.length) : distOf (l.set a.toNat v) = Grf.put (distOf l) a v := by
  funext x
  unfold distOf Grf.put
  rw [List.length_set]
  by_cases e : x = a
  · subst e
    have : x.toNat < l.length := by omega
    rw [if_pos ⟨h0, h⟩, if_pos rfl]
    simp [this]
  · rw [if_neg e]
    show (if 0 ≤ x ∧ x < (l.length : Int) then (l.set a.toNat v).getD x.toNat 0 else -1) = if 0 ≤ x ∧ x < (l.length : Int) then l.getD x.toNat 0 else -1
    by_cases hx : 0 ≤ x ∧ x < l.length
    · rw [if_pos hx, if_pos hx]
      have : a.toNat ≠ x.toNat := by omega
      simp [List.getD_eq_getElem?_getD, List.getElem?_set_ne this]
    · rw [if_neg hx, if_neg hx]
theorem distOf_neg (n : Nat) : distOf (List.replicate n (-1)) = fun _ => -1 := by
  funext x
  unfold distOf
  by_cases hx : 0 ≤ x ∧ x < (List.replicate n (-1 : Int)).length
  · rw [if_pos hx]
    simp only [List.length_replicate] at hx
    have : x.toNat < n := by omega
    simp [this]
  · rw [if_neg hx]
theorem distOf_ext {a b : List Int} (hl : a.length = b.length) (h : ∀ x : Int, 0 ≤ x → x < a.length → distOf a x = distOf b x) : a = b := by
  refine List.ext_getElem hl fun i h1 h2 => ?_
  have := h (i : Int) (by omega) (by omega)
  rw [distOf_get a i h1, distOf_get b i h2] at this
  exact this

/-- The rounds of Distances: in round d, where the edges of P are seen. -/
structure DI (G : List (List Int)) (t : Int) (d : Nat) (o : List Int) (P : Int → Int → Prop) : Prop where
  len : o.length = G.length
  zero : distOf o t = 0
  neg : ∀ a, distOf o a < 0 → distOf o a = -1
  walk : ∀ a, 0 ≤ distOf o a → Grf.Walk (adj G) (distOf o a).toNat a t
  top : ∀ a, distOf o a ≤ d + 1
  low : ∀ a, isNode G a → ∀ b ∈ adj G a, 0 ≤ distOf o b → distOf o b < d → 0 ≤ distOf o a ∧ distOf o a ≤ distOf o b + 1
  proc : ∀ a b, P a b → distOf o b = d → 0 ≤ distOf o a
  chain : ∀ a, ∀ m, 0 ≤ m → m ≤ distOf o a → ∃ b, isNode G b ∧ distOf o b = m
theorem DI.imp {G : List (List Int)} {t : Int} {d : Nat} {o : List Int} {P Q : Int → Int → Prop} (h : DI G t d o P) (hQ : ∀ a b, Q a b → P a b) : DI G t d o Q :=
  ⟨h.len, h.zero, h.neg, h.walk, h.top, h.low, fun a b hq => h.proc a b (hQ a b hq), h.chain⟩
theorem DI.next {G : List (List Int)} {t : Int} {d : Nat} {o : List Int} (h : DI G t d o fun a b => isNode G a ∧ b ∈ adj G a) : DI G t (d + 1) o fun _ _ => False := by
  refine ⟨h.len, h.zero, h.neg, h.walk, fun a => ?_, fun a ha b hb h0 hlt => ?_, fun _ _ hf => hf.elim, h.chain⟩
  · have := h.top a; omega
  · by_cases e : distOf o b = d
    · have h1 := h.proc a b ⟨ha, hb⟩ e
      have h2 := h.top a
      omega
    · exact h.low a ha b hb h0 (by omega)
theorem DI.put {G : List (List Int)} {t : Int} {d : Nat} {o : List Int} {P : Int → Int → Prop} {a b : Int} (h : DI G t d o P) (ha : isNode G a) (hb : b ∈ adj G a) (hneg : distOf o a < 0) (hd : distOf o b = d) : DI G t d (o.set a.toNat ((d : Int) + 1)) fun x y => P x y ∨ (x = a) := by
  have ha' := ha
  unfold isNode at ha'
  have hset := distOf_set o a ((d : Int) + 1) ha'.1 (by rw [h.len]; exact ha'.2)
  have hne : ∀ x, 0 ≤ distOf o x → x ≠ a := fun x hx e => by rw [e] at hx; omega
  refine ⟨by rw [List.length_set]; exact h.len, ?_, fun x hx => ?_, fun x hx => ?_, fun x => ?_, fun x hx y hy h0 hlt => ?_, fun x y hp hy => ?_, fun x m h0 hm => ?_⟩
  · rw [hset, Grf.put_other _ _ (hne t (by rw [h.zero]; omega))]; exact h.zero
  · rw [hset] at hx ⊢
    by_cases e : x = a
    · rw [e, Grf.put_same] at hx; omega
    · rw [Grf.put_other _ _ e] at hx ⊢; exact h.neg x hx
  · rw [hset] at hx ⊢
    by_cases e : x = a
    · rw [e, Grf.put_same, show ((d : Int) + 1).toNat = d + 1 by omega]
      have := h.walk b (by omega)
      rw [hd, show ((d : Int)).toNat = d by omega] at this
      exact .cons hb this
    · rw [Grf.put_other _ _ e] at hx ⊢; exact h.walk x hx
  · rw [hset]
    by_cases e : x = a
    · rw [e, Grf.put_same]; omega
    · rw [Grf.put_other _ _ e]; exact h.top x
  · rw [hset] at h0 hlt ⊢
    have ey : y ≠ a := fun e => by rw [e, Grf.put_same] at hlt; omega
    rw [Grf.put_other _ _ ey] at h0 hlt ⊢
    have h1 := h.low x hx y hy h0 hlt
    rw [Grf.put_other _ _ (hne x h1.1)]
    exact h1
  · rw [hset] at hy ⊢
    by_cases e : x = a
    · rw [e, Grf.put_same]; omega
    · rw [Grf.put_other _ _ e]
      have ey : y ≠ a := fun e2 => by rw [e2, Grf.put_same] at hy; omega
      rw [Grf.put_other _ _ ey] at hy
      exact h.proc x y (hp.resolve_right e) hy
  · rw [hset] at hm ⊢
    have key : ∀ z, 0 ≤ distOf o z → m ≤ distOf o z → ∃ c, isNode G c ∧ Grf.put (distOf o) a ((d : Int) + 1) c = m := fun z hz hzm => by
      obtain ⟨c, h1, h2⟩ := h.chain z m h0 hzm
      exact ⟨c, h1, by rw [Grf.put_other _ _ (hne c (by omega))]; exact h2⟩
    by_cases e : x = a
    · rw [e, Grf.put_same] at hm
      by_cases em : m = (d : Int) + 1
      · exact ⟨a, ha, by rw [Grf.put_same, em]⟩
      · exact key b (by omega) (by omega)
    · rw [Grf.put_other _ _ e] at hm
      exact key x (by omega) hm
theorem DI.far {G : List (List Int)} {t : Int} {o : List Int} (hG : okG G) (h : DI G t G.length o fun _ _ => False) : Grf.Far (adj G) (nodes G) t (distOf o) := by
  refine ⟨h.zero, fun a _ => h.neg a, fun a _ => h.walk a, fun a ha b hb h0 => h.low a ((mem_nodes G a).1 ha) b hb h0 ?_⟩
  have h1 := nodup_len ((List.range ((distOf o b).toNat + 1)).map fun (i : Nat) => (i : Int)) ((nodes G).map (distOf o)) (by
    unfold List.Nodup
    rw [List.pairwise_map]
    exact List.nodup_range.imp (fun h e => h (by omega))) (fun x hx => by
    obtain ⟨i, hi, rfl⟩ := List.mem_map.1 hx
    rw [List.mem_range] at hi
    obtain ⟨c, h2, h3⟩ := h.chain b (i : Int) (by omega) (by omega)
    exact List.mem_map.2 ⟨c, (mem_nodes G c).2 h2, h3⟩)
  rw [List.length_map, List.length_map, List.length_range, nodes_len] at h1
  omega
theorem DI.start {G : List (List Int)} {t : Int} (ht : isNode G t) : DI G t 0 ((List.replicate G.length (-1)).set t.toNat 0) fun _ _ => False := by
  have ht' := ht
  unfold isNode at ht'
  have hset : distOf ((List.replicate G.length (-1)).set t.toNat 0) = Grf.put (fun _ => -1) t 0 := by
    rw [distOf_set _ t 0 ht'.1 (by simp; exact ht'.2), distOf_neg]
  have h0 : ∀ a, 0 ≤ Grf.put (fun _ => -1) t 0 a → a = t := fun a ha => Classical.byContradiction fun e => by rw [Grf.put_other _ _ e] at ha; omega
  refine ⟨by simp, ?_, fun a ha => ?_, fun a ha => ?_, fun a => ?_, fun a ha b hb h1 h2 => ?_, fun _ _ hf => hf.elim, fun a m h1 h2 => ?_⟩
  · rw [hset, Grf.put_same]
  · rw [hset] at ha ⊢
    by_cases e : a = t
    · rw [e, Grf.put_same] at ha; omega
    · rw [Grf.put_other _ _ e]
  · rw [hset] at ha ⊢
    rw [h0 a ha, Grf.put_same]; exact .zero t
  · rw [hset]
    by_cases e : a = t
    · rw [e, Grf.put_same]; omega
    · rw [Grf.put_other _ _ e]; omega
  · rw [hset] at h1 h2; omega
  · rw [hset] at h2 ⊢
    by_cases e : a = t
    · rw [e, Grf.put_same] at h2
      exact ⟨t, ht, by rw [Grf.put_same]; omega⟩
    · rw [Grf.put_other _ _ e] at h2; omega

/-- The distances to t, as a list. -/
def farL (G : List (List Int)) (t : Int) (r : List Int) : Prop := r.length = G.length ∧ Grf.Far (adj G) (nodes G) t (distOf r)
theorem farL.uniq {G : List (List Int)} (hG : okG G) {t : Int} {r s : List Int} (hr : farL G t r) (hs : farL G t s) : r = s := by
  refine distOf_ext (by rw [hr.1, hs.1]) fun x h0 h1 => ?_
  rw [hr.1] at h1
  exact hr.2.uniq (okG.cl hG) hs.2 x ((mem_nodes G x).2 ⟨h0, h1⟩)

/-! ### ShortestPath. -/
/-- The shortest path by the distances r. -/
def pathL (G : List (List Int)) (r : List Int) (a : Int) : List Int := if distOf r a < 0 then [] else Grf.path (adj G) (distOf r) (distOf r a).toNat a
/-- What ShortestPath answers. -/
def spath (G : List (List Int)) (a b : Int) (p : List Int) : Prop := (chk G = 0 ∧ isNode G a ∧ isNode G b ∧ ∃ r, farL G b r ∧ p = pathL G r a) ∨ (¬ (chk G = 0 ∧ isNode G a ∧ isNode G b) ∧ p = [])
theorem spath.uniq {G : List (List Int)} {a b : Int} {p q : List Int} (hp : spath G a b p) (hq : spath G a b q) : p = q := by
  rcases hp with ⟨h1, h2, h3, r, h4, rfl⟩ | ⟨h1, rfl⟩
  · rcases hq with ⟨_, _, _, s, h5, rfl⟩ | ⟨h5, rfl⟩
    · rw [farL.uniq h1 h4 h5]
    · exact absurd ⟨h1, h2, h3⟩ h5
  · rcases hq with ⟨h2, h3, h4, s, h5, rfl⟩ | ⟨h5, rfl⟩
    · exact absurd ⟨h2, h3, h4⟩ h1
    · rfl
end Go.Proofs.Ytbphjbfnnhfhlaa
end

section
/- Reverse and Preds in plain lists. -/
set_option linter.unusedVariables false
set_option linter.unusedSimpArgs false
namespace Go.Proofs.Ytbphjbfnnhfhlaa
open Go.RowKit Go.Proofs.YtbphjbfnnhfhlaaW.PrintWords Go.Proofs.Ytbphjbfnnhfhlaa.PDigraphTells

/-- The sources of the edges to b from the rows below i. -/
def rvU (G : List (List Int)) (i : Nat) (b : Int) : List Int := (List.range i).flatMap fun a => ((G.getD a []).filter (· == b)).map fun _ => (a : Int)
theorem rvU_succ (G : List (List Int)) (i : Nat) (h : i < G.length) (b : Int) : rvU G (i + 1) b = rvU G i b ++ (G[i].filter (· == b)).map fun _ => (i : Int) := by
  unfold rvU
  rw [List.range_succ, List.flatMap_append, List.flatMap_singleton]
  simp [h]
theorem edges_take (G : List (List Int)) : ∀ i, i ≤ G.length → ∀ b, (rvU G i b).length ≤ edges (G.take i) := by
  intro i
  induction i with
  | zero => intro _ b; simp [rvU]
  | succ i ih =>
    intro hi b
    rw [rvU_succ G i (by omega) b, List.length_append, List.length_map, List.take_succ_eq_append_getElem (by omega)]
    have h1 := ih (by omega) b
    have h2 : (G[i].filter (· == b)).length ≤ G[i].length := List.length_filter_le _ _
    simp only [edges, List.map_append, List.sum_append, List.map_cons, List.map_nil, List.sum_cons, List.sum_nil] at h1 ⊢
    omega
theorem edges_split (G : List (List Int)) (i : Nat) : edges (G.take i) + edges (G.drop i) = edges G := by
  unfold edges
  rw [← List.sum_append, ← List.map_append, List.take_append_drop]
theorem edges_row (G : List (List Int)) (i : Nat) (h : i < G.length) : edges (G.take i) + G[i].length ≤ edges G := by
  rw [← edges_split G i, List.drop_eq_getElem_cons h]
  simp only [edges, List.map_cons, List.sum_cons]
  omega
theorem rd1_set (o : List (List Int)) (s : Int) (h0 : 0 ≤ s) (h : s < o.length) (v : List Int) (b : Int) (hb : 0 ≤ b) : rd_L1 (o.set s.toNat v) b = if b = s then v else rd_L1 o b := by
  unfold rd_L1
  by_cases e : b = s
  · subst e
    have : b.toNat < o.length := by omega
    rw [if_pos rfl]; simp [this]
  · rw [if_neg e]
    have : s.toNat ≠ b.toNat := by omega
    simp [List.getD_eq_getElem?_getD, List.getElem?_set_ne this]
theorem tab_ext {o : List (List Int)} {G : List (List Int)} {f : Int → List Int} (hl : o.length = G.length) (h : ∀ b, isNode G b → rd_L1 o b = f b) : o = (nodes G).map f := by
  refine List.ext_getElem (by rw [hl, List.length_map, nodes_len]) fun i h1 h2 => ?_
  have h3 := h (i : Int) (by unfold isNode; omega)
  rw [rd1_get o i h1] at h3
  rw [h3, List.getElem_map]
  unfold nodes
  rw [List.getElem_map, List.getElem_range]
/-- The rows of the reversed graph ahead of entry j of row i. -/
structure RV (G : List (List Int)) (o : List (List Int)) (i j : Nat) : Prop where
  len : o.length = G.length
  at_ : ∀ b, isNode G b → rd_L1 o b = rvU G i b ++ (((G.getD i []).take j).filter (· == b)).map fun _ => (i : Int)
theorem filter_snoc (l : List Int) (j : Nat) (h : j < l.length) (b : Int) : (l.take (j + 1)).filter (· == b) = (l.take j).filter (· == b) ++ if l[j] = b then [l[j]] else [] := by
  rw [List.take_succ_eq_append_getElem h, List.filter_append]
  by_cases e : l[j] = b
  · rw [if_pos e]; simp [e]
  · rw [if_neg e]; simp [e]
theorem RV.step {G : List (List Int)} {o : List (List Int)} {i j : Nat} (hG : okG G) (h : RV G o i j) (hi : i < G.length) (hj : j < G[i].length) : RV G (o.set (G[i][j]).toNat (rd_L1 o G[i][j] ++ [(i : Int)])) i (j + 1) := by
  have hn : isNode G G[i][j] := hG.row (List.getElem_mem hi) (List.getElem_mem hj)
  have hn' := hn
  unfold isNode at hn
  have eg : G.getD i [] = G[i] := by simp [hi]
  refine ⟨by rw [List.length_set]; exact h.len, fun b hb => ?_⟩
  rw [rd1_set o _ hn.1 (by rw [h.len]; exact hn.2) _ b hb.1, eg, filter_snoc _ _ hj]
  have h1 := h.at_ b hb
  rw [eg] at h1
  by_cases e : b = G[i][j]
  · rw [if_pos e, if_pos e.symm, ← e, h1, List.map_append, List.append_assoc]
    rfl
  · rw [if_neg e, if_neg (fun h => e h.symm), h1, List.append_nil]
theorem RV.row {G : List (List Int)} {o : List (List Int)} {i : Nat} (hi : i < G.length) (h : RV G o i (G[i].length)) : RV G o (i + 1) 0 := by
  refine ⟨h.len, fun b hb => ?_⟩
  have h1 := h.at_ b hb
  have eg : G.getD i [] = G[i] := by simp [hi]
  rw [eg, List.take_length, ← rvU_succ G i hi b] at h1
  rw [h1]
  simp
theorem RV.small {G : List (List Int)} {o : List (List Int)} {i j : Nat} (h : RV G o i j) (hi : i < G.length) (hE : edges G < 17592186044416) {b : Int} (hb : isNode G b) (hj : j < G[i].length) : (rd_L1 o b).length < 17592186044416 := by
  rw [h.at_ b hb, List.length_append, List.length_map]
  have h1 := edges_take G i (by omega) b
  have h2 := edges_row G i hi
  have eg : G.getD i [] = G[i] := by simp [hi]
  rw [eg]
  have h3 : ((G[i].take j).filter (· == b)).length ≤ (G[i].take j).length := List.length_filter_le _ _
  rw [List.length_take] at h3
  omega
theorem RV.start (G : List (List Int)) : RV G (List.replicate G.length []) 0 0 := by
  refine ⟨by simp, fun b hb => ?_⟩
  unfold isNode at hb
  have : b.toNat < G.length := by omega
  simp [rd_L1, rvU, this]
def pvU (G : List (List Int)) (i : Nat) (b : Int) : List Int := ((List.range i).filter fun a => decide (b ∈ G.getD a [])).map fun (a : Nat) => (a : Int)
theorem pvU_succ (G : List (List Int)) (i : Nat) (h : i < G.length) (b : Int) : pvU G (i + 1) b = pvU G i b ++ if b ∈ G[i] then [(i : Int)] else [] := by
  unfold pvU
  rw [List.range_succ, List.filter_append, List.map_append]
  have eg : G.getD i [] = G[i] := by simp [h]
  by_cases e : b ∈ G[i]
  · rw [if_pos e]
    have : ([i].filter fun a => decide (b ∈ G.getD a [])) = [i] := by rw [List.filter_cons_of_pos (by rw [eg]; simpa using e)]; rfl
    rw [this]; rfl
  · rw [if_neg e]
    have : ([i].filter fun a => decide (b ∈ G.getD a [])) = [] := by rw [List.filter_cons_of_neg (by rw [eg]; simpa using e)]; rfl
    rw [this]; rfl
theorem pvU_lt (G : List (List Int)) (i : Nat) (b : Int) : ∀ x ∈ pvU G i b, 0 ≤ x ∧ x < i := by
  intro x hx
  unfold pvU at hx
  obtain ⟨a, ha, rfl⟩ := List.mem_map.1 hx
  have := List.mem_range.1 (List.mem_filter.1 ha).1
  omega
theorem pvU_len (G : List (List Int)) (i : Nat) (b : Int) : (pvU G i b).length ≤ i := by
  unfold pvU
  rw [List.length_map]
  have : ((List.range i).filter fun a => decide (b ∈ G.getD a [])).length ≤ (List.range i).length := List.length_filter_le _ _
  rw [List.length_range] at this
  exact this
theorem mem_pvU (G : List (List Int)) (b : Int) (x : Int) : x ∈ pvU G G.length b ↔ isNode G x ∧ b ∈ adj G x := by
  unfold pvU
  rw [List.mem_map]
  constructor
  · rintro ⟨a, ha, rfl⟩
    rw [List.mem_filter, List.mem_range] at ha
    refine ⟨by unfold isNode; omega, ?_⟩
    rw [adj_nat G a ha.1]
    have h2 := ha.2
    simp [ha.1] at h2
    exact h2
  · rintro ⟨h1, h2⟩
    obtain ⟨hi, e⟩ := adj_eq h1
    unfold isNode at h1
    refine ⟨x.toNat, ?_, by omega⟩
    rw [List.mem_filter, List.mem_range]
    refine ⟨hi, ?_⟩
    rw [e] at h2
    simp [hi, h2]
def predL (G : List (List Int)) : List (List Int) := if chk G = 0 then (nodes G).map (pvU G G.length) else []
structure PV (G : List (List Int)) (o : List (List Int)) (i j : Nat) : Prop where
  len : o.length = G.length
  at_ : ∀ b, isNode G b → rd_L1 o b = pvU G i b ++ if b ∈ (G.getD i []).take j then [(i : Int)] else []
theorem PV.row {G : List (List Int)} {o : List (List Int)} {i : Nat} (hi : i < G.length) (h : PV G o i (G[i].length)) : PV G o (i + 1) 0 := by
  refine ⟨h.len, fun b hb => ?_⟩
  have h1 := h.at_ b hb
  have eg : G.getD i [] = G[i] := by simp [hi]
  rw [eg, List.take_length, ← pvU_succ G i hi b] at h1
  rw [h1]
  simp
theorem PV.old {G : List (List Int)} {o : List (List Int)} {i j : Nat} (h : PV G o i j) (hi : i < G.length) (hj : j < G[i].length) (hin : G[i][j] ∈ G[i].take j) : PV G o i (j + 1) := by
  refine ⟨h.len, fun b hb => ?_⟩
  have h1 := h.at_ b hb
  have eg : G.getD i [] = G[i] := by simp [hi]
  rw [eg] at h1 ⊢
  rw [h1, List.take_succ_eq_append_getElem hj]
  by_cases e : b ∈ G[i].take j
  · rw [if_pos e, if_pos (List.mem_append.2 (.inl e))]
  · rw [if_neg e, if_neg (fun h2 => by
      rcases List.mem_append.1 h2 with h3 | h3
      · exact e h3
      · rw [List.mem_singleton] at h3; exact e (by rw [h3]; exact hin))]
theorem PV.new {G : List (List Int)} {o : List (List Int)} {i j : Nat} (hG : okG G) (h : PV G o i j) (hi : i < G.length) (hj : j < G[i].length) (hin : G[i][j] ∉ G[i].take j) : PV G (o.set (G[i][j]).toNat (rd_L1 o G[i][j] ++ [(i : Int)])) i (j + 1) := by
  have hn : isNode G G[i][j] := hG.row (List.getElem_mem hi) (List.getElem_mem hj)
  have hn' := hn
  unfold isNode at hn
  have eg : G.getD i [] = G[i] := by simp [hi]
  refine ⟨by rw [List.length_set]; exact h.len, fun b hb => ?_⟩
  rw [rd1_set o _ hn.1 (by rw [h.len]; exact hn.2) _ b hb.1, eg, List.take_succ_eq_append_getElem hj]
  have h1 := h.at_ b hb
  rw [eg] at h1
  by_cases e : b = G[i][j]
  · subst e
    rw [if_pos rfl, if_pos (List.mem_append.2 (.inr (List.mem_singleton.2 rfl))), h1, if_neg hin, List.append_nil]
  · rw [if_neg e, h1]
    by_cases e2 : b ∈ G[i].take j
    · rw [if_pos e2, if_pos (List.mem_append.2 (.inl e2))]
    · rw [if_neg e2, if_neg (fun h2 => by
        rcases List.mem_append.1 h2 with h3 | h3
        · exact e2 h3
        · rw [List.mem_singleton] at h3; exact e h3)]
theorem PV.small {G : List (List Int)} {o : List (List Int)} {i j : Nat} (h : PV G o i j) {b : Int} (hb : isNode G b) : (rd_L1 o b).length ≤ i + 1 := by
  rw [h.at_ b hb, List.length_append]
  have := pvU_len G i b
  split <;> simp <;> omega
theorem PV.last {G : List (List Int)} {o : List (List Int)} {i j : Nat} (h : PV G o i j) (hi : i < G.length) {b : Int} (hb : isNode G b) (hpos : 0 < (rd_L1 o b).length) : rd (rd_L1 o b) (((rd_L1 o b).length - 1 : Nat) : Int) = i ↔ b ∈ G[i].take j := by
  have h1 := h.at_ b hb
  have eg : G.getD i [] = G[i] := by simp [hi]
  rw [eg] at h1
  obtain ⟨l, hl⟩ : ∃ l, rd_L1 o b = l := ⟨_, rfl⟩
  rw [hl] at h1 hpos ⊢
  rw [rd_get l _ (by omega)]
  by_cases e : b ∈ G[i].take j
  · rw [if_pos e] at h1
    subst h1
    simp [e]
  · rw [if_neg e, List.append_nil] at h1
    have := pvU_lt G i b l[l.length - 1] (by rw [← h1]; exact List.getElem_mem _)
    constructor
    · intro h2; omega
    · intro h2; exact absurd h2 e
theorem pred_l1 {G : List (List Int)} (hG : okG G) (hs : short G) (i : Nat) (hi : i < G.length) (r : List (List Int))
    (hK : ∀ o, PV G o (i + 1) 0 → Ev (fun k => digraph_Preds.l0 k o G (G.length : Int) ((i + 1 : Nat) : Int)) r) :
    ∀ (e j : Nat) (o : List (List Int)), j + e = G[i].length → PV G o i j → Ev (fun k => digraph_Preds.l1 k o (i : Int) G (G.length : Int) (i : Int) G[i] (G[i].length : Int) (j : Int)) r := by
  have hr := hs.2 _ (List.getElem_mem hi)
  have hl := okG.len hG
  intro e
  induction e with
  | zero =>
    intro j o hj h
    obtain rfl : j = G[i].length := by omega
    refine Ev.suc (fun k => ?_) (hK o (h.row hi))
    simp only [digraph_Preds.l1]
    rw [if_neg (by omega), w64 i G.length hi hs.1]
  | succ e ih =>
    intro j o hj h
    have hlt : j < G[i].length := by omega
    have hmn : isNode G G[i][j] := hG.row (List.getElem_mem hi) (List.getElem_mem hlt)
    have hsm := h.small hmn
    have hlast := fun hp => h.last hi hmn hp
    have hmn' := hmn
    unfold isNode at hmn
    by_cases h0 : (rd_L1 o G[i][j]).length = 0
    · have hin : G[i][j] ∉ G[i].take j := fun hin => by
        have := h.at_ _ hmn'
        have eg : G.getD i [] = G[i] := by simp [hi]
        rw [eg, if_pos hin] at this
        rw [this] at h0
        simp at h0
      refine Ev.suc (fun k => ?_) (ih (j + 1) _ (by omega) (h.new hG hi hlt hin))
      simp only [digraph_Preds.l1]
      rw [if_pos (by omega), if_pos (by omega), if_pos (by omega), rd_get _ j hlt, if_pos hmn.1, if_pos (by rw [h.len]; exact hmn.2), if_pos (by omega), if_pos (by omega), w64 j _ hlt hr]
    · have ew : wrap64 (((rd_L1 o G[i][j]).length : Int) - 1) = (((rd_L1 o G[i][j]).length - 1 : Nat) : Int) := by unfold wrap64; omega
      by_cases hin : G[i][j] ∈ G[i].take j
      · refine Ev.suc (fun k => ?_) (ih (j + 1) _ (by omega) (h.old hi hlt hin))
        simp only [digraph_Preds.l1]
        rw [if_pos (by omega), if_pos (by omega), if_pos (by omega), rd_get _ j hlt, if_pos hmn.1, if_pos (by rw [h.len]; exact hmn.2), if_neg (by omega), ew, if_pos (by omega), if_pos (by omega), if_pos ((hlast (by omega)).2 hin), w64 j _ hlt hr]
      · refine Ev.suc (fun k => ?_) (ih (j + 1) _ (by omega) (h.new hG hi hlt hin))
        simp only [digraph_Preds.l1]
        rw [if_pos (by omega), if_pos (by omega), if_pos (by omega), rd_get _ j hlt, if_pos hmn.1, if_pos (by rw [h.len]; exact hmn.2), if_neg (by omega), ew, if_pos (by omega), if_pos (by omega), if_neg (fun h2 => hin ((hlast (by omega)).1 h2)), if_pos (by omega), w64 j _ hlt hr]
theorem pred_l0 {G : List (List Int)} (hG : okG G) (hs : short G) : ∀ (e i : Nat) (o : List (List Int)), i + e = G.length → PV G o i 0 → Ev (fun k => digraph_Preds.l0 k o G (G.length : Int) (i : Int)) (predL G) := by
  intro e
  induction e with
  | zero =>
    intro i o hi h
    obtain rfl : i = G.length := by omega
    have : predL G = o := by
      unfold predL
      have hG' : chk G = 0 := hG
      rw [if_pos hG', tab_ext h.len (f := pvU G G.length) (fun b hb => by rw [h.at_ b hb]; simp)]
    rw [this]
    refine Ev.suc (fun k => ?_) (Ev.ret o)
    simp only [digraph_Preds.l0]
    rw [if_neg (by omega)]
  | succ e ih =>
    intro i o hi h
    have hlt : i < G.length := by omega
    refine Ev.suc (fun k => ?_) (pred_l1 hG hs i hlt (predL G) (fun o' h' => ih (i + 1) o' (by omega) h') G[i].length 0 o (by omega) h)
    simp only [digraph_Preds.l0]
    rw [if_pos (by omega), if_pos (by omega), if_pos (by omega), rd1_get G i hlt]
    rfl
theorem pred_f (G : List (List Int)) (hs : short G) : Ev (fun k => digraph_Preds.f k G) (predL G) := by
  unfold digraph_Preds.f
  refine Ev.bind (chk_f G hs) ?_
  by_cases h : chk G = 0
  · have hl := okG.len h
    have hst : PV G (List.replicate G.length []) 0 0 := by
      refine ⟨by simp, fun b hb => ?_⟩
      unfold isNode at hb
      have : b.toNat < G.length := by omega
      simp [rd_L1, pvU, this]
    refine Ev.of (fun k => ?_) (pred_l0 h hs G.length 0 _ (by omega) hst)
    rw [if_pos h, if_pos (by omega), if_pos (by omega), Int.toNat_natCast]
    rfl
  · unfold predL
    rw [if_neg h]
    exact Ev.of (fun k => by rw [if_neg h]) (Ev.ret _)
/-! ### The reference's Preds: each row of Reverse without repetitions. -/
def once : List Int → List Int → List Int
  | acc, [] => acc
  | acc, a :: l => once (if acc.length = 0 ∨ acc.getD (acc.length - 1) 0 ≠ a then acc ++ [a] else acc) l
end Go.Proofs.Ytbphjbfnnhfhlaa
end

section
/- Small words on the machine's memory for the hand-made walks: a block's cells, and 'Kp S w w'': w' is w but for the blocks of S and new blocks. -/
set_option linter.unusedVariables false
namespace Go.Proofs.Ytbphjbfnnhfhlaa.Mem
open Go.RowKit Go.Proofs.YtbphjbfnnhfhlaaW.PrintWords

theorem cell_at {w : World} {p j t : Nat} {cs : Array Value} {v : Value} (h : w.heap[p]? = some (.cells cs t (0, 0))) (hj : cs[j]? = some v) : w.cell? ⟨p, j, none⟩ = some v := by
  simp [World.cell?, h, hj]
theorem free_at {w : World} {p t : Nat} {cs : Array Value} (h : w.heap[p]? = some (.cells cs t (0, 0))) (j : Nat) : w.frozen? ⟨p, j, none⟩ = false := by
  simp [World.frozen?, h]
theorem blk_lt' {w : World} {p : Nat} {o : Obj} (h : w.heap[p]? = some o) : p < w.heap.size := (Array.getElem?_eq_some_iff.1 h).1

theorem set_at {w : World} {p j t : Nat} {cs : Array Value} {fr : Nat × Nat} (h : w.heap[p]? = some (.cells cs t fr)) (v : Value) : (w.setCell ⟨p, j, none⟩ v).heap[p]? = some (.cells (cs.setIfInBounds j v) t fr) := by
  simp [World.setCell, Array.getElem?_modify, h]

theorem still_tail {P : Program} {id : Nat} {Q : Exit → Act → World → Prop} {a : Act} {w : World} {l : List Oper} (n : Nat) (hm : P.follows .mixedOrders = true) (hB : Region.lexTailB .any l.toArray n = true)
    (h : wpStill P l.toArray w.drew (fun a' => wpList P l.toArray Q (l.drop n) a' w.drew) (l.take n) a) : (Code.region id l.toArray true).wp P Q a w := wp_region_still_tail n hm hB h

structure Kp (S : Nat → Prop) (w w' : World) : Prop where
  os : w'.os = w.os
  tape : w'.tape = w.tape
  output : w'.output = w.output
  kept : Kept w w' S

section
variable {S S2 S' : Nat → Prop} {w W W2 : World}
theorem Kp.size (h : Kp S w W) : w.heap.size ≤ W.heap.size := h.kept.1
theorem Kp.block (h : Kp S w W) {k : Nat} (hk : k < w.heap.size) (hn : ¬ S k) : W.heap[k]? = w.heap[k]? := h.kept.2 k hk hn
theorem Kp.refl (S : Nat → Prop) (w : World) : Kp S w w := ⟨rfl, rfl, rfl, Kept.refl _ _⟩
theorem Kp.of_below (h : Below w.heap.size w W) (S : Nat → Prop) : Kp S w W := ⟨h.os, h.tape, h.output, Kept.of_below h S⟩
theorem Kp.mono (h : Kp S w W) (hs : ∀ k, S k → S' k) : Kp S' w W := ⟨h.os, h.tape, h.output, h.kept.mono hs⟩
theorem Kp.then_ (h : Kp S w W) (k : Kp S2 W W2) (hs : ∀ k, S2 k → S k ∨ w.heap.size ≤ k) : Kp S w W2 :=
  ⟨k.os.trans h.os, k.tape.trans h.tape, k.output.trans h.output, h.kept.then_ k.kept hs⟩
theorem Kp.alloc (h : Kp S w W) (o : Obj) : Kp S w (W.alloc o) := ⟨h.os, h.tape, h.output, h.kept.alloc o⟩
theorem Kp.drew (h : Kp S w W) : Kp S w W.drew := ⟨h.os, h.tape, h.output, h.kept⟩
theorem Kp.drewN (h : Kp S w W) (m : Nat) : Kp S w (W.drewN m) := ⟨h.os, h.tape, h.output, h.kept⟩
theorem Kp.setCell (h : Kp S w W) {p : Addr} (hp : S p.block ∨ w.heap.size ≤ p.block) (u : Value) : Kp S w (W.setCell p u) := ⟨h.os, h.tape, h.output, h.kept.setCell hp u⟩
theorem Kp.grown {row : Option Nat} (h : Kp S w W) (hg : W.grownBy W2 row) (hr : ∀ k, row = some k → S k ∨ w.heap.size ≤ k) : Kp S w W2 :=
  ⟨hg.os.trans h.os, hg.tape.trans h.tape, hg.output.trans h.output, Kept.of_grown hg h.kept hr⟩
theorem Kp.below (h : Kp S w W) (hs : ∀ k, S k → w.heap.size ≤ k) : Below w.heap.size w W :=
  ⟨h.os, h.tape, h.output, h.size, fun k hk => h.block hk (fun h' => by have := hs k h'; omega)⟩
theorem Kp.belowB {B : Nat} (h : Kp S w W) (hs : ∀ k, S k → B ≤ k) (hB : B ≤ w.heap.size) : Below B w W :=
  ⟨h.os, h.tape, h.output, h.size, fun k hk => h.block (by omega) (fun h' => by have := hs k h'; omega)⟩
theorem Kp.none_below (h : Kp (fun _ => False) w W) : Below w.heap.size w W := h.below (fun _ hk => hk.elim)
theorem Kp.blk {k : Nat} {o : Obj} (h : Kp S w W) (hb : w.heap[k]? = some o) (hn : ¬ S k) : W.heap[k]? = some o := (h.block (blk_lt' hb) hn).trans hb
end
end Go.Proofs.Ytbphjbfnnhfhlaa.Mem
end

section
/- Sets of small numbers as lists of Bools and as words of 64 bits: plain facts. -/
set_option linter.unusedVariables false
set_option linter.unusedSimpArgs false
namespace Go.Proofs.Ytbphjbfnnhfhlaa.Bit

def bw (f : Nat → Bool) : Nat → Nat
  | 0 => 0
  | j + 1 => 2 ^ j * (if f j then 1 else 0) + bw f j
theorem bw_lt (f : Nat → Bool) : ∀ m, bw f m < 2 ^ m
  | 0 => by simp [bw]
  | m + 1 => by
    have := bw_lt f m
    unfold bw
    rw [Nat.pow_succ]
    split <;> omega
theorem bw_bit (f : Nat → Bool) : ∀ m j, (bw f m).testBit j = (decide (j < m) && f j)
  | 0, j => by simp [bw]
  | m + 1, j => by
    have h1 := bw_lt f m
    unfold bw
    rw [Nat.testBit_two_pow_mul_add _ h1]
    by_cases hj : j < m
    · rw [if_pos hj, bw_bit f m j]
      simp [hj]
      intro _; omega
    · rw [if_neg hj]
      by_cases he : j = m
      · subst he
        simp
        by_cases hf : f j <;> simp [hf]
      · have h2 : ¬ j < m + 1 := by omega
        obtain ⟨d, hd⟩ : ∃ d, j - m = d + 1 := ⟨j - m - 1, by omega⟩
        rw [hd]
        simp [h2]
        split <;> simp [Nat.testBit_succ]
def wd (bs : List Bool) (k : Nat) : Nat := bw (fun j => bs.getD (64 * k + j) false) 64
theorem wd_lt (bs : List Bool) (k : Nat) : wd bs k < 18446744073709551616 := bw_lt _ 64
theorem wd_bit (bs : List Bool) (k j : Nat) : (wd bs k).testBit j = (decide (j < 64) && bs.getD (64 * k + j) false) := bw_bit _ 64 j
def wds (bs : List Bool) : List Int := (List.range ((bs.length + 63) / 64)).map fun k => ((wd bs k : Nat) : Int)
theorem wds_length (bs : List Bool) : (wds bs).length = (bs.length + 63) / 64 := by simp [wds]
theorem wds_get (bs : List Bool) (k : Nat) (h : k < (bs.length + 63) / 64) : (wds bs)[k]? = some ((wd bs k : Nat) : Int) := by
  simp [wds, h]
theorem wds_getD (bs : List Bool) (k : Nat) (h : k < (bs.length + 63) / 64) : (wds bs).getD k 0 = ((wd bs k : Nat) : Int) := by
  rw [List.getD_eq_getElem?_getD, wds_get bs k h]; rfl

/-- The four bit operations on numbers below 2^64. -/
theorem wrap_u (n : Nat) (h : n < 18446744073709551616) : IntKind.u64.wrap (n : Int) = n := by
  simp [IntKind.wrap, IntKind.signed, IntKind.bits]; omega
def opv (op : BinOp) (a b : Nat) : Nat :=
  match op with
  | .and => (BitVec.ofNat 64 a &&& BitVec.ofNat 64 b).toNat
  | .or => (BitVec.ofNat 64 a ||| BitVec.ofNat 64 b).toNat
  | .xor => (BitVec.ofNat 64 a ^^^ BitVec.ofNat 64 b).toNat
  | _ => (BitVec.ofNat 64 a &&& ~~~ BitVec.ofNat 64 b).toNat
theorem opv_lt (op : BinOp) (a b : Nat) : opv op a b < 18446744073709551616 := by
  unfold opv; split <;> exact BitVec.isLt _
theorem bits_nat (op : BinOp) (a b : Nat) : bits op .u64 (a : Int) (b : Int) = (opv op a b : Nat) := by
  unfold bits opv
  have e : IntKind.u64.bits = 64 := rfl
  cases op <;> exact wrap_u _ (BitVec.isLt _)
def bop (op : BinOp) (x y : Bool) : Bool :=
  match op with
  | .and => x && y
  | .or => x || y
  | .xor => x ^^ y
  | _ => x && !y
theorem opv_bit (op : BinOp) (a b j : Nat) : (opv op a b).testBit j = (decide (j < 64) && bop op (a.testBit j) (b.testBit j)) := by
  unfold opv bop
  by_cases hj : j < 64
  · cases op <;> (simp only [BitVec.testBit_toNat, BitVec.getLsbD_and, BitVec.getLsbD_or, BitVec.getLsbD_xor, BitVec.getLsbD_not, BitVec.getLsbD_ofNat, hj, decide_true, Bool.true_and])
  · cases op <;> (simp only [BitVec.testBit_toNat, BitVec.getLsbD_and, BitVec.getLsbD_or, BitVec.getLsbD_xor, BitVec.getLsbD_not, BitVec.getLsbD_ofNat, hj, decide_false, Bool.false_and]; try rfl)
theorem eq_of_bits {a b : Nat} (ha : a < 18446744073709551616) (hb : b < 18446744073709551616) (h : ∀ j, j < 64 → a.testBit j = b.testBit j) : a = b := by
  apply Nat.eq_of_testBit_eq
  intro j
  by_cases hj : j < 64
  · exact h j hj
  · have h2 : (2 : Nat) ^ 64 ≤ 2 ^ j := Nat.pow_le_pow_right (by omega) (by omega)
    rw [Nat.testBit_lt_two_pow (by omega), Nat.testBit_lt_two_pow (by omega)]

/-- Has. -/
theorem shr_nat (a i : Nat) : (a : Int) / 2 ^ i = ((a / 2 ^ i : Nat) : Int) := by
  rw [Int.natCast_ediv, Int.natCast_pow]; rfl
theorem has_word (bs : List Bool) (i : Nat) : bits .and .u64 (((wd bs (i / 64) : Nat) : Int) / 2 ^ (i % 64)) 1 = if bs.getD i false then 1 else 0 := by
  rw [shr_nat, show (1 : Int) = ((1 : Nat) : Int) from rfl, bits_nat]
  have h0 : opv .and (wd bs (i / 64) / 2 ^ (i % 64)) 1 = if bs.getD i false then 1 else 0 := by
    apply Nat.eq_of_testBit_eq
    intro j
    rw [opv_bit]
    have e : 64 * (i / 64) + i % 64 = i := by omega
    have h64 : i % 64 < 64 := by omega
    cases j with
    | zero =>
      have h5 := wd_bit bs (i / 64) (i % 64)
      rw [e] at h5
      simp only [bop, ← Nat.shiftRight_eq_div_pow, Nat.testBit_shiftRight, Nat.add_zero, h5]
      generalize bs.getD i false = b
      cases b <;> simp [h64]
    | succ j =>
      have h1 : Nat.testBit 1 (j + 1) = false := by simp [Nat.testBit_succ]
      simp only [bop, h1, Bool.and_false]
      split
      · exact h1.symm
      · simp
  rw [h0]
  split <;> rfl

theorem getD_lt (bs : List Bool) (i : Nat) (h : i < bs.length) : bs.getD i false = bs[i] := by
  rw [List.getD_eq_getElem?_getD, List.getElem?_eq_getElem h]; rfl
theorem set_getD (bs : List Bool) (i j : Nat) (b : Bool) (hi : i < bs.length) : (bs.set i b).getD j false = if i = j then b else bs.getD j false := by
  simp only [List.getD_eq_getElem?_getD, List.getElem?_set]
  by_cases h : i = j
  · subst h; simp [hi]
  · simp [h]
theorem one_shl (j : Nat) (h : j < 64) : IntKind.u64.wrap (1 * 2 ^ j) = ((2 ^ j : Nat) : Int) := by
  have h2 : (2 : Nat) ^ j < 2 ^ 64 := Nat.pow_lt_pow_right (by omega) h
  rw [Int.one_mul, show (2 : Int) ^ j = ((2 ^ j : Nat) : Int) by simp]
  exact wrap_u _ h2
theorem wds_set (bs : List Bool) (i : Nat) (hi : i < bs.length) (b : Bool) (v : Nat) (hv : v < 18446744073709551616)
    (h : ∀ j, j < 64 → v.testBit j = if j = i % 64 then b else (wd bs (i / 64)).testBit j) : (wds bs).set (i / 64) (v : Int) = wds (bs.set i b) := by
  apply List.ext_getElem?
  intro k
  by_cases hk : k < (bs.length + 63) / 64
  · rw [wds_get _ _ (by simpa using hk), List.getElem?_set]
    by_cases he : i / 64 = k
    · subst he
      rw [if_pos rfl, if_pos (by rw [wds_length]; exact hk)]
      have h6 : v = wd (bs.set i b) (i / 64) := by
        refine eq_of_bits hv (wd_lt _ _) (fun j hj => ?_)
        rw [h j hj, wd_bit, wd_bit, set_getD _ _ _ _ hi]
        by_cases hj2 : j = i % 64
        · have : i = 64 * (i / 64) + j := by omega
          rw [if_pos hj2, if_pos this, decide_eq_true hj, Bool.true_and]
        · have : ¬ i = 64 * (i / 64) + j := by omega
          rw [if_neg hj2, if_neg this]
      rw [h6]
    · rw [if_neg he, wds_get _ _ hk]
      have h6 : wd bs k = wd (bs.set i b) k := by
        refine eq_of_bits (wd_lt _ _) (wd_lt _ _) (fun j hj => ?_)
        rw [wd_bit, wd_bit, set_getD _ _ _ _ hi, if_neg (by omega)]
      rw [h6]
  · rw [List.getElem?_eq_none (by simp [wds_length]; omega), List.getElem?_eq_none (by simp [wds_length]; omega)]
theorem wds_add (bs : List Bool) (i : Nat) (hi : i < bs.length) : (wds bs).set (i / 64) (bits .or .u64 ((wd bs (i / 64) : Nat) : Int) (IntKind.u64.wrap (2 ^ (i % 64)))) = wds (bs.set i true) := by
  rw [← Int.one_mul (2 ^ (i % 64)), one_shl _ (by omega), bits_nat]
  refine wds_set bs i hi true _ (opv_lt _ _ _) (fun j hj => ?_)
  rw [opv_bit, Nat.testBit_two_pow]
  by_cases h : i % 64 = j
  · rw [if_pos h.symm, decide_eq_true h, decide_eq_true hj]; simp [bop]
  · have h' : ¬ j = i % 64 := fun e => h e.symm
    rw [if_neg h', decide_eq_false h, decide_eq_true hj]; simp [bop]
/-- The elements below m, in order. -/
def elemsTo (bs : List Bool) (m : Nat) : List Int := ((List.range m).filter (fun i : Nat => bs.getD i false)).map fun i : Nat => (i : Int)
def elems (bs : List Bool) : List Int := elemsTo bs bs.length
end Go.Proofs.Ytbphjbfnnhfhlaa.Bit
end

section
/- Package bitset: what a set's memory says, and the contracts of New, valid, Has, Add. -/
set_option linter.unusedVariables false
set_option linter.unusedSimpArgs false
namespace Go.Proofs.Ytbphjbfnnhfhlaa
open Go.RowKit Go.Proofs.YtbphjbfnnhfhlaaW.PrintWords Mem Bit

theorem infoU64 : (Try.prog.info? 74).map (fun i => (i.zero, i.size, i.bytes)) = some (some (.int .u64 0), 1, 8) := by kernel_rfl

/-- A set of the program at block p: its elements are those places of bs that hold true. -/
structure BS (w : World) (ok : Nat → Prop) (p : Nat) (bs : List Bool) : Prop where
  ex : ∃ g cc, w.heap[p]? = some (.cells #[.bool true, .int .i64 bs.length, .slice (some ⟨g, 0, none⟩) (wds bs).length cc] 73 (0, 0)) ∧ ok p ∧
    Kd.R (Kd.int .u64) 74 w 0 (fun k => ok k ∧ k ≠ p) (.slice (some ⟨g, 0, none⟩) (wds bs).length cc) (wds bs) ∧ bs.length ≤ 65536

theorem BS.step {w w1 : World} {ok : Nat → Prop} {p : Nat} {bs : List Bool} (h : BS w ok p bs) (hm : ∀ k, ok k → k < w.heap.size → w1.heap[k]? = w.heap[k]?) : BS w1 ok p bs := by
  obtain ⟨g, cc, hp, okp, hR, hl⟩ := h.ex
  exact ⟨⟨g, cc, (hm p okp (blk_lt' hp)).trans hp, okp, Kd.R_step hR (fun k hk hlt => hm k hk.1 hlt), hl⟩⟩
theorem BS.mono {w : World} {ok ok' : Nat → Prop} {p : Nat} {bs : List Bool} (h : BS w ok p bs) (hm : ∀ k, ok k → ok' k) : BS w ok' p bs := by
  obtain ⟨g, cc, hp, okp, hR, hl⟩ := h.ex
  exact ⟨⟨g, cc, hp, hm _ okp, Kd.R_mono hR (fun k hk => ⟨hm k hk.1, hk.2⟩), hl⟩⟩
theorem BS.bound {w : World} {ok : Nat → Prop} {p : Nat} {bs : List Bool} (h : BS w ok p bs) : BS w (fun k => ok k ∧ k < w.heap.size) p bs := by
  obtain ⟨g, cc, hp, okp, hR, hl⟩ := h.ex
  exact ⟨⟨g, cc, hp, ⟨okp, blk_lt' hp⟩, Kd.R_mono (Kd.R_bound hR) (fun k hk => ⟨⟨hk.1.1, hk.2.2.1⟩, hk.1.2⟩), hl⟩⟩
theorem BS.drewN {w : World} {ok : Nat → Prop} {p : Nat} {bs : List Bool} (h : BS w ok p bs) (q : Nat) : BS (w.drewN q) ok p bs := h.step (fun k _ hk => rfl)
theorem BS.alloc {w : World} {ok : Nat → Prop} {p : Nat} {bs : List Bool} (h : BS w ok p bs) (o : Obj) : BS (w.alloc o) ok p bs := h.step (fun k _ hk => Below.heap_alloc w o k hk)
theorem BS.below {w W : World} {ok : Nat → Prop} {p : Nat} {bs : List Bool} (h : BS w ok p bs) (hb : Below w.heap.size w W) : BS W ok p bs := h.step (fun k _ hk => hb.block k hk)
theorem BS.kp {w W : World} {ok S : Nat → Prop} {p : Nat} {bs : List Bool} (h : BS w ok p bs) (hk : Kp S w W) (hd : ∀ k, ok k → ¬ S k) : BS W ok p bs := h.step (fun k ho hlt => hk.block hlt (hd k ho))

theorem wds_zero (n : Nat) : wds (List.replicate n false) = List.replicate ((n + 63) / 64) 0 := by
  apply List.ext_getElem?
  intro k
  by_cases hk : k < (n + 63) / 64
  · rw [wds_get _ _ (by simpa using hk)]
    have : wd (List.replicate n false) k = 0 := by
      refine eq_of_bits (wd_lt _ _) (by omega) (fun j hj => ?_)
      rw [wd_bit]
      by_cases h : 64 * k + j < n
      · simp [List.getD_eq_getElem?_getD, List.getElem?_replicate, h]
      · simp [List.getD_eq_getElem?_getD, List.getElem?_replicate, h]
    rw [this]
    simp [List.getElem?_replicate, hk]
  · rw [List.getElem?_eq_none (by simp [wds_length]; omega), List.getElem?_eq_none (by simp; omega)]

theorem valid_ok (p : Nat) (w : World) (c0 : w.cell? ⟨p, 0, none⟩ = some (.bool true)) :
    Calls Try.prog 55 #[.pointer (some ⟨p, 0, none⟩)] w fun e w' => e = .returned (.bool true) ∧ w = w' := by
  go_enter Try.func55, Try.ntmps55
  go_wp2
  go_ret
  exact ⟨rfl, rfl⟩
theorem valid_zero (p : Nat) (w : World) (c0 : w.cell? ⟨p, 0, none⟩ = some (.bool false)) :
    Calls Try.prog 55 #[.pointer (some ⟨p, 0, none⟩)] w fun e w' => e = .returned (.bool false) ∧ w = w' := by
  go_enter Try.func55, Try.ntmps55
  go_wp2
  go_ret
  exact ⟨rfl, rfl⟩
theorem valid_nil (w : World) : Calls Try.prog 55 #[.pointer none] w fun e w' => e = .returned (.bool false) ∧ w = w' := by
  go_enter Try.func55, Try.ntmps55
  go_wp2
  go_ret
  exact ⟨rfl, rfl⟩

theorem new_bad (n : Int) (w : World) (h : n < 0 ∨ 65536 < n) : Calls Try.prog 54 #[.int .i64 n] w fun e w' => e = .returned (.pointer none) ∧ w = w' := by
  by_cases h0 : n < 0
  · clear h
    go_enter Try.func54, Try.ntmps54
    go_wp2
    go_ret
    exact ⟨rfl, rfl⟩
  · have h1 : 65536 < n := by omega
    clear h
    go_enter Try.func54, Try.ntmps54
    go_wp2
    go_ret
    exact ⟨rfl, rfl⟩
theorem new_ok (n : Nat) (w : World) (h : n ≤ 65536) : Calls Try.prog 54 #[.int .i64 n] w fun e w' => ∃ p, e = .returned (.pointer (some ⟨p, 0, none⟩)) ∧
    BS w' (fun k => w.heap.size ≤ k) p (List.replicate n false) ∧ Kp (fun _ => False) w w' := by
  obtain ⟨m, hm⟩ : ∃ m, m = (n + 63) / 64 := ⟨_, rfl⟩
  have hmk := print_make (P := Try.prog) 71 74 .u64 8 Try.underlying71 infoU64 (by decide) m (by omega)
  have hd : ((n : Int) + 63) / 64 = (m : Int) := by omega
  have H : ∀ w : World, BS ((w.alloc (.cells (madeCells #[.int .u64 0] m) 74)).alloc (.cells #[.bool true, .int .i64 n, .slice (some ⟨w.heap.size, 0, none⟩) m m] 73)) (fun k => w.heap.size ≤ k) (w.heap.size + 1) (List.replicate n false) := by
    intro w
    have hw : wds (List.replicate n false) = List.replicate m 0 := by rw [wds_zero, hm]
    refine ⟨⟨w.heap.size, m, ?_, by simp, ?_, by simpa using h⟩⟩
    · rw [hw]; simpa using heap_alloc_new (w.alloc (.cells (madeCells #[.int .u64 0] m) 74)) (.cells #[.bool true, .int .i64 n, .slice (some ⟨w.heap.size, 0, none⟩) m m] 73)
    · rw [hw]
      refine Kd.R_alloc (Kd.R_of_own ?_ (fun k hk => ?_)) _
      · have h9 : (w.alloc (.cells (madeCells #[.int .u64 0] m) 74)).ownsRow 0 74 1 (.slice (some ⟨w.heap.size, 0, none⟩) m m) m (encs (Value.int .u64) (List.replicate m 0)) := own_made w 0 74 .u64 m (Nat.zero_le _) (by omega)
        simpa using h9
      · have : w.heap.size = k := by simpa [Value.ownBlock] using hk
        omega
  have H' := Aside0.mk H
  clear H hm
  go_enter Try.func54, Try.ntmps54
  go_wp2
  go_ret
  exact ⟨_, rfl, H'.out w, ((Kp.refl _ w).alloc _).alloc _⟩

end Go.Proofs.Ytbphjbfnnhfhlaa
end

section
/- Package bitset: Has, Add, Remove. -/
set_option linter.unusedVariables false
set_option linter.unusedSimpArgs false
namespace Go.Proofs.Ytbphjbfnnhfhlaa
open Go.RowKit Go.Proofs.YtbphjbfnnhfhlaaW.PrintWords Mem Bit

theorem word_at {w : World} {ok : Nat → Prop} {g cc : Nat} {bs : List Bool} (h : Kd.R (Kd.int .u64) 74 w 0 ok (.slice (some ⟨g, 0, none⟩) (wds bs).length cc) (wds bs)) (k : Nat) (hk : k < (bs.length + 63) / 64) :
    w.cell? ⟨g, k, none⟩ = some (.int .u64 (wd bs k : Nat)) ∧ w.frozen? ⟨g, k, none⟩ = false := by
  have h1 := Kd.R_cell 0 h (k : Int) (by omega) (by rw [wds_length]; omega)
  have e : rdOf (0 : Int) (wds bs) (k : Int) = (wd bs k : Nat) := by
    unfold rdOf
    rw [Int.toNat_natCast, wds_getD bs k hk]
  rw [e] at h1
  exact h1

theorem has_in (p : Nat) (ok : Nat → Prop) (bs : List Bool) (i : Nat) (b : Bool) (w : World) (hB : BS w ok p bs) (hi : i < bs.length) (hb : bs.getD i false = b) :
    Calls Try.prog 56 #[.pointer (some ⟨p, 0, none⟩), .int .i64 i] w fun e w' => e = .returned (.bool b) ∧ w = w' := by
  obtain ⟨g, cc, hp, okp, hR, hl⟩ := hB.ex
  have c0 : w.cell? ⟨p, 0, none⟩ = some (.bool true) := cell_at hp rfl
  have c1 : w.cell? ⟨p, 1, none⟩ = some (.int .i64 bs.length) := cell_at hp rfl
  have c2 : w.cell? ⟨p, 2, none⟩ = some (.slice (some ⟨g, 0, none⟩) (wds bs).length cc) := cell_at hp rfl
  have c3 := (word_at hR (i / 64) (by omega)).1
  have hw := has_word bs i
  rw [hb] at hw
  rw [wds_length] at c2
  have e1 : ((i : Int) / 64) = ((i / 64 : Nat) : Int) := by omega
  have e2 : ((i : Int) % 64) = ((i % 64 : Nat) : Int) := by omega
  have i1 : i / 64 < (bs.length + 63) / 64 := by omega
  have i2 : i % 64 < 64 := by omega
  have i3 : i ≤ 65536 := by omega
  obtain ⟨a, ha⟩ : ∃ a, a = i / 64 := ⟨_, rfl⟩
  obtain ⟨r, hr⟩ : ∃ r, r = i % 64 := ⟨_, rfl⟩
  obtain ⟨m, hm⟩ : ∃ m, m = (bs.length + 63) / 64 := ⟨_, rfl⟩
  rw [← ha] at c3 hw e1 i1
  rw [← hr] at hw e2 i2
  rw [← hm] at c2 i1
  clear hp hR hB ha hr hm hb
  cases b
  · simp only [Bool.false_eq_true, if_false] at hw
    go_enter Try.func56, Try.ntmps56
    go_wp2_with (go_at_call 55; refine (valid_ok p _ c0).mono ?_; rintro e w' ⟨rfl, rfl⟩)
    go_ret
    exact ⟨rfl, rfl⟩
  · simp only [if_true] at hw
    go_enter Try.func56, Try.ntmps56
    go_wp2_with (go_at_call 55; refine (valid_ok p _ c0).mono ?_; rintro e w' ⟨rfl, rfl⟩)
    go_ret
    exact ⟨rfl, rfl⟩

theorem wrap_n (n : Nat) (h : n < 9223372036854775808) : IntKind.i64.wrap (n : Int) = n := by
  simp [IntKind.wrap, IntKind.signed, IntKind.bits]; omega
/-- What a set's memory is behind a store of word a. -/
theorem BS.put {w : World} {ok : Nat → Prop} {p g cc : Nat} {bs : List Bool} (hp : w.heap[p]? = some (.cells #[.bool true, .int .i64 bs.length, .slice (some ⟨g, 0, none⟩) (wds bs).length cc] 73 (0, 0))) (okp : ok p)
    (hR : Kd.R (Kd.int .u64) 74 w 0 (fun k => ok k ∧ k ≠ p) (.slice (some ⟨g, 0, none⟩) (wds bs).length cc) (wds bs)) (hl : bs.length ≤ 65536) (i : Nat) (hi : i < bs.length) (b : Bool) (v : Int)
    (hv : (wds bs).set (i / 64) v = wds (bs.set i b)) : BS (w.setCell ⟨g, i / 64, none⟩ (.int .u64 v)) ok p (bs.set i b) ∧ Kp ok w (w.setCell ⟨g, i / 64, none⟩ (.int .u64 v)) := by
  have hg : ok g ∧ g ≠ p := hR.1 g (by simp [Value.ownBlock])
  have h2 := (Kd.R_put hR ((i / 64 : Nat) : Int) v).1
  rw [Int.toNat_natCast, hv] at h2
  have h3 : (wds (bs.set i b)).length = (wds bs).length := by rw [wds_length, wds_length, List.length_set]
  refine ⟨⟨⟨g, cc, ?_, okp, ?_, by simpa using hl⟩⟩, (Kp.refl ok w).setCell (.inl hg.1) _⟩
  · rw [h3, List.length_set]
    exact (Below.heap_setCell w ⟨g, i / 64, none⟩ _ p (fun e => hg.2 e.symm)).trans hp
  · rw [h3]; exact h2

set_option maxHeartbeats 400000 in
theorem add_in (p : Nat) (ok : Nat → Prop) (bs : List Bool) (i : Nat) (w : World) (hB : BS w ok p bs) (hi : i < bs.length) (hb : bs.getD i false = false) :
    Calls Try.prog 53 #[.pointer (some ⟨p, 0, none⟩), .int .i64 i] w fun e w' => e = .returned (.bool true) ∧ BS w' ok p (bs.set i true) ∧ Kp ok w w' := by
  obtain ⟨g, cc, hp, okp, hR, hl⟩ := hB.ex
  have c0 : w.cell? ⟨p, 0, none⟩ = some (.bool true) := cell_at hp rfl
  have c1 : w.cell? ⟨p, 1, none⟩ = some (.int .i64 bs.length) := cell_at hp rfl
  have c2 : w.cell? ⟨p, 2, none⟩ = some (.slice (some ⟨g, 0, none⟩) (wds bs).length cc) := cell_at hp rfl
  have c3 := (word_at hR (i / 64) (by omega)).1
  have f3 := (word_at hR (i / 64) (by omega)).2
  rw [wds_length] at c2
  have H := Aside0.mk (BS.put (ok := ok) hp okp hR hl i hi true _ (wds_add bs i hi))
  have hB' := Aside0.mk hB
  have e1 : ((i : Int) / 64) = ((i / 64 : Nat) : Int) := by omega
  have e2 : ((i : Int) % 64) = ((i % 64 : Nat) : Int) := by omega
  have i1 : i / 64 < (bs.length + 63) / 64 := by omega
  have i2 : i % 64 < 64 := by omega
  have i3 : i ≤ 65536 := by omega
  obtain ⟨a, ha⟩ : ∃ a, a = i / 64 := ⟨_, rfl⟩
  obtain ⟨r, hr⟩ : ∃ r, r = i % 64 := ⟨_, rfl⟩
  obtain ⟨m, hm⟩ : ∃ m, m = (bs.length + 63) / 64 := ⟨_, rfl⟩
  rw [← ha] at c3 f3 e1 i1 H
  rw [← hr] at e2 i2 H
  rw [← hm] at c2 i1
  obtain ⟨V, hV⟩ : ∃ V, V = ((wd bs a : Nat) : Int) := ⟨_, rfl⟩
  rw [← hV] at c3 H
  have hb' := Aside0.mk hb
  have e3 := wrap_n a (by omega)
  have e4 : (i : Int).tmod 64 = (r : Int) := by rw [Int.tmod_eq_emod_of_nonneg (by omega)]; exact e2
  clear hp hR hB ha hr hm hb hV
  go_enter Try.func53, Try.ntmps53
  go_wp2_with (first
    | (go_at_call 55; refine (valid_ok p _ c0).mono ?_; rintro e w' ⟨rfl, rfl⟩)
    | (go_at_call 56; refine (has_in p ok bs i false _ hB'.out hi hb'.out).mono ?_; rintro e w' ⟨rfl, rfl⟩))
  refine still_tail 13 (by kernel_rfl) (by kernel_rfl) ?_
  simp only [List.take_succ_cons, List.take_zero, List.drop_succ_cons, List.drop_zero]
  repeat still_step
  --!STOP
  refine wpStill_nil ?_
  go_wp2
  go_ret
  exact ⟨rfl, H.out.1.step (fun k _ _ => rfl), H.out.2.drew⟩

/-- A set's pointer, in whatever state: nil, not made by New, or a set (some bs). -/
structure PS (w : World) (ok : Nat → Prop) (v : Option Addr) (o : Option (List Bool)) : Prop where
  ex : (v = none ∧ o = none) ∨ (∃ p, v = some ⟨p, 0, none⟩ ∧ o = none ∧ ok p ∧ w.heap[p]? = some (.cells #[.bool false, .int .i64 0, .slice none 0 0] 73 (0, 0))) ∨
    ∃ p bs, v = some ⟨p, 0, none⟩ ∧ o = some bs ∧ BS w ok p bs
theorem PS.step {w w1 : World} {ok : Nat → Prop} {v : Option Addr} {o : Option (List Bool)} (h : PS w ok v o) (hm : ∀ k, ok k → k < w.heap.size → w1.heap[k]? = w.heap[k]?) : PS w1 ok v o := by
  rcases h.ex with h | ⟨p, h1, h2, h3, h4⟩ | ⟨p, bs, h1, h2, h3⟩
  · exact ⟨.inl h⟩
  · exact ⟨.inr (.inl ⟨p, h1, h2, h3, (hm p h3 (blk_lt' h4)).trans h4⟩)⟩
  · exact ⟨.inr (.inr ⟨p, bs, h1, h2, h3.step hm⟩)⟩
theorem PS.mono {w : World} {ok ok' : Nat → Prop} {v : Option Addr} {o : Option (List Bool)} (h : PS w ok v o) (hm : ∀ k, ok k → ok' k) : PS w ok' v o := by
  rcases h.ex with h | ⟨p, h1, h2, h3, h4⟩ | ⟨p, bs, h1, h2, h3⟩
  · exact ⟨.inl h⟩
  · exact ⟨.inr (.inl ⟨p, h1, h2, hm _ h3, h4⟩)⟩
  · exact ⟨.inr (.inr ⟨p, bs, h1, h2, h3.mono hm⟩)⟩
theorem PS.bound {w : World} {ok : Nat → Prop} {v : Option Addr} {o : Option (List Bool)} (h : PS w ok v o) : PS w (fun k => ok k ∧ k < w.heap.size) v o := by
  rcases h.ex with h | ⟨p, h1, h2, h3, h4⟩ | ⟨p, bs, h1, h2, h3⟩
  · exact ⟨.inl h⟩
  · exact ⟨.inr (.inl ⟨p, h1, h2, ⟨h3, blk_lt' h4⟩, h4⟩)⟩
  · exact ⟨.inr (.inr ⟨p, bs, h1, h2, h3.bound⟩)⟩
theorem PS.drewN {w : World} {ok : Nat → Prop} {v : Option Addr} {o : Option (List Bool)} (h : PS w ok v o) (q : Nat) : PS (w.drewN q) ok v o := h.step (fun k _ hk => rfl)
theorem PS.alloc {w : World} {ok : Nat → Prop} {v : Option Addr} {o : Option (List Bool)} (h : PS w ok v o) (x : Obj) : PS (w.alloc x) ok v o := h.step (fun k _ hk => Below.heap_alloc w x k hk)
theorem PS.kp {w W : World} {ok S : Nat → Prop} {v : Option Addr} {o : Option (List Bool)} (h : PS w ok v o) (hk : Kp S w W) (hd : ∀ k, ok k → ¬ S k) : PS W ok v o := h.step (fun k ho hlt => hk.block hlt (hd k ho))
theorem PS.none_ (w : World) (ok : Nat → Prop) : PS w ok none none := ⟨.inl ⟨rfl, rfl⟩⟩
theorem PS.set_ {w : World} {ok : Nat → Prop} {p : Nat} {bs : List Bool} (h : BS w ok p bs) : PS w ok (some ⟨p, 0, none⟩) (some bs) := ⟨.inr (.inr ⟨p, bs, rfl, rfl, h⟩)⟩

def newO (n : Int) : Option (List Bool) := if n < 0 ∨ 65536 < n then none else some (List.replicate n.toNat false)
def hasO (o : Option (List Bool)) (i : Int) : Bool := match o with | none => false | some bs => decide (0 ≤ i) && bs.getD i.toNat false
def inO (o : Option (List Bool)) (i : Int) : Bool := match o with | none => false | some bs => decide (0 ≤ i) && decide (i < bs.length)
def setO (o : Option (List Bool)) (i : Int) (b : Bool) : Option (List Bool) := o.map fun bs => if 0 ≤ i then bs.set i.toNat b else bs
def addB (o : Option (List Bool)) (i : Int) : Bool := inO o i && !hasO o i
theorem set_same (bs : List Bool) (i : Nat) (b : Bool) (h : bs.length ≤ i ∨ bs.getD i false = b) : bs.set i b = bs := by
  apply List.ext_getElem?
  intro j
  rw [List.getElem?_set]
  by_cases e : i = j
  · subst e
    rw [if_pos rfl]
    by_cases hi : i < bs.length
    · rw [if_pos hi]
      rcases h with h | h
      · omega
      · rw [getD_lt bs i hi] at h
        rw [List.getElem?_eq_getElem hi, h]
    · rw [if_neg hi, List.getElem?_eq_none (by omega)]
  · rw [if_neg e]

theorem new_any (n : Int) (w : World) : Calls Try.prog 54 #[.int .i64 n] w fun e w' => ∃ v, e = .returned (.pointer v) ∧ PS w' (fun k => w.heap.size ≤ k) v (newO n) ∧ Kp (fun _ => False) w w' := by
  unfold newO
  by_cases h : n < 0 ∨ 65536 < n
  · rw [if_pos h]
    refine (new_bad n w h).mono ?_
    rintro e w' ⟨rfl, rfl⟩
    exact ⟨_, rfl, PS.none_ _ _, Kp.refl _ _⟩
  · rw [if_neg h]
    obtain ⟨m, rfl⟩ := Int.eq_ofNat_of_zero_le (show 0 ≤ n by omega)
    refine (new_ok m w (by omega)).mono ?_
    rintro e w' ⟨p, rfl, hB, hK⟩
    exact ⟨_, rfl, PS.set_ (by simpa using hB), hK⟩
end Go.Proofs.Ytbphjbfnnhfhlaa
end

section
/- Package bitset: Add and Remove of any set, Of, Cap. -/
set_option linter.unusedVariables false
set_option linter.unusedSimpArgs false
namespace Go.Proofs.Ytbphjbfnnhfhlaa
open Go.RowKit Go.Proofs.YtbphjbfnnhfhlaaW.PrintWords Mem Bit

theorem add_nil (i : Int) (w : World) : Calls Try.prog 53 #[.pointer none, .int .i64 i] w fun e w' => e = .returned (.bool false) ∧ w = w' := by
  go_enter Try.func53, Try.ntmps53
  go_wp2_with (go_at_call 55; refine (valid_nil _).mono ?_; rintro e w' ⟨rfl, rfl⟩)
  go_ret
  exact ⟨rfl, rfl⟩
theorem add_zero (p : Nat) (i : Int) (w : World) (c0 : w.cell? ⟨p, 0, none⟩ = some (.bool false)) : Calls Try.prog 53 #[.pointer (some ⟨p, 0, none⟩), .int .i64 i] w fun e w' => e = .returned (.bool false) ∧ w = w' := by
  go_enter Try.func53, Try.ntmps53
  go_wp2_with (go_at_call 55; refine (valid_zero p _ c0).mono ?_; rintro e w' ⟨rfl, rfl⟩)
  go_ret
  exact ⟨rfl, rfl⟩
theorem add_out (p : Nat) (ok : Nat → Prop) (bs : List Bool) (i : Int) (w : World) (hB : BS w ok p bs) (hi : i < 0 ∨ (bs.length : Int) ≤ i) :
    Calls Try.prog 53 #[.pointer (some ⟨p, 0, none⟩), .int .i64 i] w fun e w' => e = .returned (.bool false) ∧ w = w' := by
  obtain ⟨g, cc, hp, okp, hR, hl⟩ := hB.ex
  have c0 : w.cell? ⟨p, 0, none⟩ = some (.bool true) := cell_at hp rfl
  have c1 : w.cell? ⟨p, 1, none⟩ = some (.int .i64 bs.length) := cell_at hp rfl
  clear hp hR hB
  by_cases h0 : i < 0
  · clear hi
    go_enter Try.func53, Try.ntmps53
    go_wp2_with (go_at_call 55; refine (valid_ok p _ c0).mono ?_; rintro e w' ⟨rfl, rfl⟩)
    go_ret
    exact ⟨rfl, rfl⟩
  · have h1 : (bs.length : Int) ≤ i := by omega
    have h2 : 0 ≤ i := by omega
    clear hi
    go_enter Try.func53, Try.ntmps53
    go_wp2_with (go_at_call 55; refine (valid_ok p _ c0).mono ?_; rintro e w' ⟨rfl, rfl⟩)
    go_ret
    exact ⟨rfl, rfl⟩
theorem add_old (p : Nat) (ok : Nat → Prop) (bs : List Bool) (i : Nat) (w : World) (hB : BS w ok p bs) (hi : i < bs.length) (hb : bs.getD i false = true) :
    Calls Try.prog 53 #[.pointer (some ⟨p, 0, none⟩), .int .i64 i] w fun e w' => e = .returned (.bool false) ∧ w = w' := by
  obtain ⟨g, cc, hp, okp, hR, hl⟩ := hB.ex
  have c0 : w.cell? ⟨p, 0, none⟩ = some (.bool true) := cell_at hp rfl
  have c1 : w.cell? ⟨p, 1, none⟩ = some (.int .i64 bs.length) := cell_at hp rfl
  have hB' := Aside0.mk hB
  have hb' := Aside0.mk hb
  clear hp hR hB hb
  go_enter Try.func53, Try.ntmps53
  go_wp2_with (first
    | (go_at_call 55; refine (valid_ok p _ c0).mono ?_; rintro e w' ⟨rfl, rfl⟩)
    | (go_at_call 56; refine (has_in p ok bs i true _ hB'.out hi hb'.out).mono ?_; rintro e w' ⟨rfl, rfl⟩))
  go_ret
  exact ⟨rfl, rfl⟩
theorem add_any (v : Option Addr) (ok : Nat → Prop) (o : Option (List Bool)) (i : Int) (w : World) (h : PS w ok v o) :
    Calls Try.prog 53 #[.pointer v, .int .i64 i] w fun e w' => e = .returned (.bool (addB o i)) ∧ PS w' ok v (setO o i true) ∧ Kp ok w w' := by
  rcases h.ex with ⟨rfl, rfl⟩ | ⟨p, rfl, rfl, h3, h4⟩ | ⟨p, bs, rfl, rfl, h3⟩
  · refine (add_nil i w).mono ?_
    rintro e w' ⟨rfl, rfl⟩
    exact ⟨rfl, h, Kp.refl _ _⟩
  · refine (add_zero p i w (cell_at h4 rfl)).mono ?_
    rintro e w' ⟨rfl, rfl⟩
    exact ⟨rfl, h, Kp.refl _ _⟩
  · by_cases hi : 0 ≤ i ∧ i < bs.length
    · obtain ⟨j, rfl⟩ := Int.eq_ofNat_of_zero_le hi.1
      have hj : j < bs.length := by omega
      have e2 : setO (some bs) (j : Int) true = some (bs.set j true) := by simp [setO]
      rw [e2]
      by_cases hb : bs.getD j false = true
      · refine (add_old p ok bs j w h3 hj hb).mono ?_
        rintro e w' ⟨rfl, rfl⟩
        refine ⟨?_, PS.set_ (by rw [set_same bs j true (.inr hb)]; exact h3), Kp.refl _ _⟩
        have : addB (some bs) (j : Int) = false := by unfold addB hasO; simp only [Int.toNat_natCast, hb]; simp
        rw [this]
      · have hb' : bs.getD j false = false := by simpa using hb
        refine (add_in p ok bs j w h3 hj hb').mono ?_
        rintro e w' ⟨rfl, hB, hK⟩
        refine ⟨?_, PS.set_ hB, hK⟩
        have : addB (some bs) (j : Int) = true := by unfold addB hasO inO; simp only [Int.toNat_natCast, hb']; simp [hj]
        rw [this]
    · refine (add_out p ok bs i w h3 (by omega)).mono ?_
      rintro e w' ⟨rfl, rfl⟩
      have e3 : setO (some bs) i true = some bs := by
        unfold setO
        by_cases h0 : 0 ≤ i
        · simp only [Option.map_some, if_pos h0]; rw [set_same bs _ true (.inl (by omega))]
        · simp only [Option.map_some, if_neg h0]
      rw [e3]
      refine ⟨?_, h, Kp.refl _ _⟩
      have : addB (some bs) i = false := by
        unfold addB inO
        by_cases h0 : 0 ≤ i
        · have : ¬ i < bs.length := by omega
          simp [h0, this]
        · simp [h0]
      rw [this]
/-- Of. -/
def addAll (o : Option (List Bool)) (l : List Int) : Option (List Bool) := l.foldl (fun o i => setO o i true) o
def ofO (n : Int) (l : List Int) : Option (List Bool) := addAll (newO n) l
theorem addAll_snoc (o : Option (List Bool)) (l : List Int) (k : Nat) (h : k < l.length) : addAll o (l.take (k + 1)) = setO (addAll o (l.take k)) (l.getD k 0) true := by
  unfold addAll
  rw [List.take_succ_eq_append_getElem h, List.foldl_append]
  simp [List.getD_eq_getElem?_getD, h]
theorem C_cellI {w : World} {A : Option Addr} {k : IntKind} {l : List Int} (h : Kd.C (Kd.int k) w A l.length l) (i : Nat) (hi : i < l.length) : ∃ ad, A = some ad ∧ w.cell? (ad.add i) = some (.int k (l.getD i 0)) := by
  obtain ⟨ad, cs, hA, hcs, hK, hcell⟩ := ReadsRow.get_ h 0 (i : Int) (by omega) (by omega)
  obtain rfl : cs = [.int k (l.getD i 0)] := by have hK' : cs = [Value.int k _] := hK; simpa using hK'
  refine ⟨ad, hA, ?_⟩
  have := hcell 0 _ rfl
  have e : ad.add ((i : Int).toNat * (Kd.int k).sz + 0) = ad.add i := by
    show ad.add (i * 1 + 0) = ad.add i
    rw [Nat.mul_one, Nat.add_zero]
  rwa [e] at this

set_option maxHeartbeats 400000 in
theorem of_any (n : Int) (A : Option Addr) (c : Nat) (l : List Int) (w : World) (hC : Kd.C (Kd.int .i64) w A l.length l) (hm : l.length ≤ 17592186044416) :
    Calls Try.prog 51 #[.int .i64 n, .slice A l.length c] w fun e w' => ∃ v, e = .returned (.pointer v) ∧ PS w' (fun k => w.heap.size ≤ k) v (ofO n l) ∧ Kp (fun _ => False) w w' := by
  have hC' := Aside0.mk hC
  clear hC
  go_enter Try.func51, Try.ntmps51
  go_wp2_with fail
  refine (new_any n w).mono ?_
  rintro e w1 ⟨v, rfl, hP, hK⟩
  have hI : Aside0 (PS w1 (fun k => w.heap.size ≤ k) v (addAll (newO n) (l.take 0)) ∧ Kp (fun k => w.heap.size ≤ k) w w1) := ⟨by simpa [addAll] using hP, hK.mono (fun _ h => h.elim)⟩
  clear hP hK
  go_wp2
  go_loopw [12] (fun i wr => ∃ k : Nat, k ≤ l.length ∧ i = .int .i64 k ∧ Aside0 (PS wr (fun k => w.heap.size ≤ k) v (addAll (newO n) (l.take k)) ∧ Kp (fun k => w.heap.size ≤ k) w wr)) (fun i _ => l.length - (intOf i).toNat)
  case atStart => exact ⟨0, Nat.zero_le _, rfl, hI⟩
  case round =>
    obtain ⟨k, hk, rfl, hI2⟩ := hrel
    by_cases hlt : k < l.length
    · obtain ⟨ad, rfl, hc⟩ := C_cellI (Kd.C_below hC'.out (hI2.out.2.below (fun _ h => h))) k hlt
      have hS := Aside0.mk (addAll_snoc (newO n) l k hlt)
      obtain ⟨x, hx⟩ : ∃ x, x = l.getD k 0 := ⟨_, rfl⟩
      rw [← hx] at hc hS
      clear hx
      go_wp2_with (go_at_call 53; refine (add_any v _ _ x _ hI2.out.1).mono ?_; rintro e w2 ⟨rfl, hP2, hK2⟩; have hI3 := Aside0.mk (And.intro hP2 (hI2.out.2.then_ hK2 (fun k hk => .inl hk))); clear hP2 hK2)
      go_roundw
      case rel => exact ⟨k + 1, by omega, by go_num, by rw [hS.out]; exact hI3⟩
      case measure => simp [intOf]; omega
    · have hke : k = l.length := by omega
      subst hke
      go_wp2
      go_ret
      refine ⟨_, rfl, ?_, Kp.of_below (hI2.out.2.below (fun _ h => h)) _⟩
      have := hI2.out.1
      rwa [List.take_length] at this
end Go.Proofs.Ytbphjbfnnhfhlaa
end

section
/- The frames of Postorder's stack, and the closure enter. -/
set_option linter.unusedVariables false
set_option linter.unusedSimpArgs false
namespace Go.Proofs.Ytbphjbfnnhfhlaa
open Go.RowKit Go.Proofs.YtbphjbfnnhfhlaaW.PrintWords Go.Proofs.Ytbphjbfnnhfhlaa.PDigraphTells Mem

theorem infoF : (Try.prog.info? 67).map (fun i => (i.zero, i.size, i.bytes)) = some (some (.agg #[(.int .i64 0), (.int .i64 0)]), 2, 16) := by kernel_rfl
def kF : Kd (Int × Nat) := Kd.iso (Kd.pair (Kd.int .i64) (Kd.int .i64)) (fun x : Int × Nat => (x.1, (x.2 : Int)))
theorem kF_open {w : World} {x : Int × Nat} {cs : List Value} (h : kF.K w x cs) : cs = [.int .i64 x.1, .int .i64 (x.2 : Int)] := by
  obtain ⟨_, _, rfl, rfl, rfl⟩ := h
  exact rfl
theorem kF_mkM (w : World) (base : Nat) (ok : Nat → Prop) (x : Int × Nat) : kF.M w base ok x [.int .i64 x.1, .int .i64 (x.2 : Int)] := ⟨[.int .i64 x.1], [.int .i64 (x.2 : Int)], rfl, rfl, rfl⟩
theorem add0 (g k : Nat) : (⟨g, 0, none⟩ : Addr).add k = ⟨g, k, none⟩ := by
  unfold Addr.add
  by_cases h : k = 0
  · subst h; simp
  · simp [h]
theorem R_free {α : Type} {d : Kd α} {e : Nat} {w : World} {ok : Nat → Prop} {g n cap : Nat} {xs : List α} (h : Kd.R d e w 0 ok (.slice (some ⟨g, 0, none⟩) n cap) xs) (j : Nat) : w.frozen? ⟨g, j, none⟩ = false := by
  obtain ⟨h0, inner, ⟨hl, ho2⟩, hr⟩ := h
  rcases ho2 with ⟨hv, _⟩ | ⟨g', cap', cur, hv, hb, hh, hnc', hcm, hcs, ht⟩
  · cases hv
  injection hv with ha _ hc
  injection ha with ha
  injection ha with hg
  subst hg
  exact free_at hh j
/-- A frame of one's own is read. -/
theorem R_atF {w : World} {ok : Nat → Prop} {g n cap : Nat} {xs : List (Int × Nat)} (h : Kd.R kF 67 w 0 ok (.slice (some ⟨g, 0, none⟩) n cap) xs) (i : Nat) (hi : i < xs.length) :
    w.cell? ⟨g, i * 2, none⟩ = some (.int .i64 (xs[i]).1) ∧ w.cell? ⟨g, i * 2 + 1, none⟩ = some (.int .i64 ((xs[i]).2 : Int)) ∧ w.frozen? ⟨g, i * 2, none⟩ = false ∧ w.frozen? ⟨g, i * 2 + 1, none⟩ = false := by
  obtain ⟨hn, hc, hC⟩ := Kd.R_reads' h
  obtain ⟨ad, c, e, _, hK, hc0⟩ := Kd.C_get hC (0, 0) (i : Int) (by omega) (by omega)
  injection e with e
  subst e
  obtain rfl := kF_open hK
  have e1 : xs.getD ((i : Int)).toNat (0, 0) = xs[i] := by simp [hi]
  rw [e1] at hc0
  have h1 := hc0 0 _ rfl
  have h2 := hc0 1 _ rfl
  rw [Int.toNat_natCast, show kF.sz = 2 from rfl, add0] at h1 h2
  exact ⟨h1, h2, R_free h _, R_free h _⟩
/-- A frame's second cell is written over. -/
theorem R_nextF {w : World} {ok : Nat → Prop} {g n cap : Nat} {xs : List (Int × Nat)} (h : Kd.R kF 67 w 0 ok (.slice (some ⟨g, 0, none⟩) n cap) xs) (i : Nat) (hi : i < xs.length) (t : Nat) :
    Kd.R kF 67 (w.setCell ⟨g, i * 2 + 1, none⟩ (.int .i64 (t : Int))) 0 ok (.slice (some ⟨g, 0, none⟩) n cap) (xs.set i (xs[i].1, t)) ∧ Kp ok w (w.setCell ⟨g, i * 2 + 1, none⟩ (.int .i64 (t : Int))) := by
  obtain ⟨hn, _, hC⟩ := Kd.R_reads' h
  obtain ⟨h1', h2', _, _⟩ := R_atF h i hi
  have := Kd.R_seg h (i : Int) (by omega) (by omega) (c := [.int .i64 (xs[i]).1, .int .i64 ((xs[i]).2 : Int)]) (seg := [.int .i64 (t : Int)]) (j := 1) (x' := (xs[i].1, t)) (okp := fun _ => False) rfl (fun j u hj => by
    rw [Int.toNat_natCast, show kF.sz = 2 from rfl]
    rcases j with _ | _ | j
    · simp at hj; rw [← hj]; exact h1'
    · simp at hj; rw [← hj]; exact h2'
    · simp at hj) (by show 1 + 1 ≤ 2; omega) (kF_mkM _ _ _ (xs[i].1, t)) (fun _ h => h.elim)
  rw [Int.toNat_natCast, show kF.sz = 2 from rfl] at this
  exact ⟨this.1, (Kp.refl ok w).grown this.2 (fun j hj => .inl (h.1 j (by simpa [Value.ownBlock] using hj)))⟩

set_option maxRecDepth 100000 in
set_option maxHeartbeats 1000000 in
theorem enter_any (n : Int) (p : Nat) (A : Option Addr) (c : Nat) (xs : List (Int × Nat)) (P : Nat → Prop) (w : World) (hp : w.heap[p]? = some (.cells #[.slice A xs.length c] 68 (0, 0))) (hR : Kd.R kF 67 w 0 P (.slice A xs.length c) xs) (hP : ¬ P p) (hm : xs.length ≤ 1000000) :
    Calls Try.prog 52 #[.int .i64 n, .pointer (some ⟨p, 0, none⟩)] w fun e w' => e = .returned (.tuple #[]) ∧ ∃ A' c', w'.heap[p]? = some (.cells #[.slice A' (xs ++ [(n, 0)]).length c'] 68 (0, 0)) ∧
      Kd.R kF 67 w' 0 (fun k => (P k ∨ w.heap.size ≤ k) ∧ k ≠ p) (.slice A' (xs ++ [(n, 0)]).length c') (xs ++ [(n, 0)]) ∧ Kp (fun k => P k ∨ k = p) w w' := by
  have c0 : w.cell? ⟨p, 0, none⟩ = some (.slice A xs.length c) := cell_at hp rfl
  have hX := Aside0.mk (And.intro hp (And.intro hR hP))
  have hlt := blk_lt' hp
  clear hp hR hP
  go_enter Try.func52, Try.ntmps52
  go_wp2_with (at_builtin; refine Kd.R_append kF (w0 := w) 0 (by rfl) (.tmp 3) (.tmp 6) 68 67 (.agg #[.int .i64 0, .int .i64 0]) 16 (by rfl) Try.underlying68 infoF rfl (by decide) (by decide) (.slice A xs.length c) xs (n, 0) [.int .i64 n, .int .i64 0] (fun k => (P k ∨ w.heap.size ≤ k) ∧ k ≠ p) (fun _ => False) (by rfl) (by rfl) (kF_mkM _ _ _ (n, 0)) (fun _ h => h.elim) (fun k hk => ⟨.inr hk, by omega⟩) (Kd.R_mono hX.out.2.1 (fun k hk => ⟨.inl hk, fun e => hX.out.2.2 (by rw [← e]; exact hk)⟩)) ((Kp.refl (fun _ => False) w).belowB (fun _ h => h.elim) (Nat.zero_le _)) (Nat.zero_le _) (by omega) ?_; intro v1 wa hRA hBA hgA hatA; obtain ⟨A1, c1, hv, _, _⟩ := Kd.R_reads hRA; subst hv; have hKA : Kp P w wa := (Kp.refl P w).grown hgA (fun k hk => .inl (hX.out.2.1.1 k hk)); have hpa : wa.heap[p]? = some (.cells #[.slice A xs.length c] 68 (0, 0)) := hKA.blk hX.out.1 hX.out.2.2; have d0 : wa.cell? ⟨p, 0, none⟩ = some (.slice A xs.length c) := cell_at hpa rfl; have f0 : wa.frozen? ⟨p, 0, none⟩ = false := free_at hpa 0; have H1 := Aside0.mk (And.intro hRA (And.intro hKA hpa)); clear hRA hBA hgA hatA hKA hpa)
  go_end0
  refine ⟨rfl, A1, c1, ?_, ?_, ?_⟩
  · have := set_at (j := 0) H1.out.2.2 (.slice A1 (xs.length + 1) c1)
    simpa using this
  · exact Kd.R_step H1.out.1 (fun k hk _ => Below.heap_setCell wa ⟨p, 0, none⟩ _ k (fun e => hk.2 e))
  · exact (H1.out.2.1.mono (fun k hk => .inl hk)).setCell (.inl (.inr rfl)) _
end Go.Proofs.Ytbphjbfnnhfhlaa
end

