/- Shortest paths in plain lists: what the statement asks of them. -/
import Derived.Test.YtjkclhpibielfaaFrJ
set_option linter.unusedVariables false
set_option linter.unusedSimpArgs false
namespace Go.Proofs.Ytjkclhpibielfaa
open Go.RowKit Go.Proofs.YtjkclhpibielfaaW.PrintWords Go.Proofs.Ytjkclhpibielfaa.PDigraphTells Mem

section
variable {G : List (List Int)} {a b : Int} {p : List Int} (h : chk G = 0 ∧ isNode G a ∧ isNode G b) (hp : spath G a b p)
include h hp
theorem sp_far : ∃ r, farL G b r ∧ p = pathL G r a := by
  rcases hp with ⟨_, _, _, r, h1, h2⟩ | ⟨h1, _⟩
  · exact ⟨r, h1, h2⟩
  · exact absurd h h1
theorem sp_reach : metOf (reachL G a) b = decide (0 < p.length) := by
  obtain ⟨r, hr, rfl⟩ := sp_far h hp
  have h1 := hr.2.reach (okG.cl h.1) ((mem_nodes G a).2 h.2.1)
  rw [Bool.eq_iff_iff, reachL_get ⟨h.1, h.2.1⟩ h.2.2, ← h1, decide_eq_true_iff]
  unfold pathL
  split
  · simp; omega
  · rw [Grf.path_len]; omega
end
theorem path_get {G : List (List Int)} {b : Int} {r : List Int} (hG : okG G) (hr : farL G b r) : ∀ (k : Nat) (x : Int), isNode G x → distOf r x = k → ∀ p, p = Grf.path (adj G) (distOf r) k x →
    p.length = k + 1 ∧ rd p 0 = x ∧ rd p (k : Int) = b ∧ (∀ i : Nat, i < p.length → isNode G (rd p i)) ∧ ∀ i : Nat, i + 1 < p.length → rd p ((i : Int) + 1) ∈ adj G (rd p i) := by
  intro k
  induction k with
  | zero =>
    intro x hx hd p hp
    subst hp
    have hw := hr.2.walk x ((mem_nodes G x).2 hx) (by omega)
    rw [hd] at hw
    cases hw
    refine ⟨rfl, rfl, rfl, fun i hi => ?_, fun i hi => by simp [Grf.path] at hi⟩
    have : i = 0 := by simp [Grf.path] at hi; exact hi
    subst this
    exact hx
  | succ k ih =>
    intro x hx hd p hp
    have hnx := hr.2.next (okG.cl hG) (fun a ha => ((mem_nodes G a).1 ha).1) ((mem_nodes G x).2 hx) (by omega)
    have hn := hG.adj hx hnx.1
    obtain ⟨q, hq⟩ : ∃ q, q = Grf.path (adj G) (distOf r) k (Grf.near (distOf r) (distOf r x) (adj G x) (-1)) := ⟨_, rfl⟩
    obtain ⟨h1, h2, h3, h4, h5⟩ := ih _ hn (by rw [hnx.2.1]; omega) q hq
    have hp' : p = x :: q := by rw [hp, Grf.path, hq]
    subst hp'
    have hs : ∀ i : Nat, rd (x :: q) ((i : Int) + 1) = rd q i := fun i => by
      unfold rd
      rw [show ((i : Int) + 1).toNat = i + 1 by omega, Int.toNat_natCast]
      simp
    refine ⟨by rw [List.length_cons, h1], rfl, ?_, fun i hi => ?_, fun i hi => ?_⟩
    · rw [← h3]; exact_mod_cast hs k
    · rcases i with _ | i
      · exact hx
      · rw [List.length_cons] at hi
        have := h4 i (by omega)
        rw [← hs i] at this
        exact_mod_cast this
    · rcases i with _ | i
      · have e := hs 0
        rw [hs 0]
        show rd q ((0 : Nat) : Int) ∈ adj G x
        rw [show ((0 : Nat) : Int) = 0 from rfl, h2]
        exact hnx.1
      · rw [List.length_cons] at hi
        have := h5 i (by omega)
        rw [← hs i] at this
        have e2 := hs (i + 1)
        rw [show (((i + 1 : Nat) : Int) + 1) = ((i + 1 : Nat) : Int) + 1 from rfl] at e2
        rw [e2]
        have e3 : (((i + 1 : Nat)) : Int) = (i : Int) + 1 := by omega
        rw [e3]
        exact this
section
variable {G : List (List Int)} {a b : Int} {p : List Int} (h : chk G = 0 ∧ isNode G a ∧ isNode G b) (hp : spath G a b p) (hpos : 0 < p.length)
include h hp hpos
theorem sp_some : ∃ r k, farL G b r ∧ distOf r a = (k : Nat) ∧ p = Grf.path (adj G) (distOf r) k a := by
  obtain ⟨r, hr, rfl⟩ := sp_far h hp
  unfold pathL at hpos ⊢
  split at hpos
  · simp at hpos
  · rename_i hd
    refine ⟨r, (distOf r a).toNat, hr, by omega, ?_⟩
    rw [if_neg hd]
theorem sp_get : rd p 0 = a ∧ rd p ((p.length : Int) - 1) = b ∧ (a = b → p.length = 1) ∧ (∀ i : Nat, i < p.length → isNode G (rd p i)) ∧ ∀ i : Nat, i + 1 < p.length → rd p ((i : Int) + 1) ∈ adj G (rd p i) := by
  obtain ⟨r, k, hr, hd, he⟩ := sp_some h hp hpos
  obtain ⟨h1, h2, h3, h4, h5⟩ := path_get h.1 hr k a h.2.1 hd p he
  refine ⟨h2, ?_, fun e => ?_, h4, h5⟩
  · rw [h1, show (((k + 1 : Nat) : Int) - 1) = (k : Int) by omega]; exact h3
  · have h6 := hr.2.zero
    rw [← e, hd] at h6
    omega
theorem sp_best {m : Int} (hm : m ∈ adj G a) (hab : a ≠ b) {q : List Int} (hq : spath G m b q) (hq0 : 0 < q.length) :
    p.length ≤ q.length + 1 ∧ 1 < p.length ∧ (q.length + 1 = p.length → rd p 1 ≤ m ∧ (m = rd p 1 → q = p.drop 1)) := by
  have hmn := okG.adj h.1 h.2.1 hm
  obtain ⟨r, k, hr, hd, he⟩ := sp_some h hp hpos
  obtain ⟨r2, k2, hr2, hd2, he2⟩ := sp_some ⟨h.1, hmn, h.2.2⟩ hq hq0
  obtain rfl := farL.uniq h.1 hr hr2
  have h1 := (path_get h.1 hr k a h.2.1 hd p he).1
  have h2 := path_get h.1 hr k2 m hmn hd2 q he2
  have h3 := hr.2.edge a ((mem_nodes G a).2 h.2.1) m hm (by omega)
  have hk0 : 0 < k := by
    rcases k with _ | k
    · have hw := hr.2.walk a ((mem_nodes G a).2 h.2.1) (by omega)
      rw [hd] at hw
      cases hw
      exact absurd rfl hab
    · omega
  refine ⟨by rw [h1, h2.1]; omega, by rw [h1]; omega, fun e => ?_⟩
  obtain ⟨j, rfl⟩ : ∃ j, k = j + 1 := ⟨k - 1, by omega⟩
  have hj : k2 = j := by rw [h1, h2.1] at e; omega
  subst hj
  have hnx := hr.2.next (okG.cl h.1) (fun a ha => ((mem_nodes G a).1 ha).1) ((mem_nodes G a).2 h.2.1) (by omega)
  have hn := okG.adj h.1 h.2.1 hnx.1
  have hp1 : p = a :: Grf.path (adj G) (distOf r) k2 (Grf.near (distOf r) (distOf r a) (adj G a) (-1)) := by rw [he, Grf.path]
  have h4 := path_get h.1 hr k2 _ hn (by rw [hnx.2.1]; omega) _ rfl
  have h5 : rd p 1 = Grf.near (distOf r) (distOf r a) (adj G a) (-1) := by
    rw [← h4.2.1, hp1]
    unfold rd
    simp
  rw [h5]
  refine ⟨hnx.2.2 m hm (by omega), fun e2 => ?_⟩
  rw [he2, hp1, ← e2]
  rfl
end
end Go.Proofs.Ytjkclhpibielfaa
