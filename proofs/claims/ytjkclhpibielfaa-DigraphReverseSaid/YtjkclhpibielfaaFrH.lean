/- The reference's Preds; what the other printed functions answer, as contracts. -/
import Derived.Test.YtjkclhpibielfaaFrG
set_option linter.unusedVariables false
set_option linter.unusedSimpArgs false
namespace Go.Proofs.Ytjkclhpibielfaa
open Go.RowKit Go.Proofs.YtjkclhpibielfaaW.PrintWords Go.Proofs.Ytjkclhpibielfaa.PDigraphTells Mem

theorem rcheck_any (A : Option Addr) (c : Nat) (G : List (List Int)) (w : World) (hC : Kd.C kG w A G.length G) (hc : G.length ≤ c) (hs : short G) (r : Int) (hr : chk G = r) :
    Calls Try.prog 8 #[.agg #[.slice A G.length c]] w fun e w' => e = .returned (.int .i64 r) ∧ Below w.heap.size w w' := by
  subst hr
  obtain ⟨k, hk⟩ := (rchk_f G hs).get
  exact burnishref06_Check.calls k A c G _ w hC hc hk
theorem small_any (A : Option Addr) (c : Nat) (G : List (List Int)) (w : World) (hC : Kd.C kG w A G.length G) (hc : G.length ≤ c) (hs : short G) (hE : G.length ≤ 60 → edges G < 4611686018427387904) (b : Bool) (hb : smallB G = b) :
    Calls Try.prog 9 #[.agg #[.slice A G.length c]] w fun e w' => e = .returned (.bool b) ∧ Below w.heap.size w w' := by
  subst hb
  obtain ⟨k, hk⟩ := (small_f G hs hE).get
  exact burnishlaw06_small.calls k A c G _ w hC hc hk
theorem same_any (A : Option Addr) (c : Nat) (x : List Int) (B : Option Addr) (c2 : Nat) (y : List Int) (w : World) (hA : Kd.C (Kd.int .i64) w A x.length x) (hc : x.length ≤ c) (hB : Kd.C (Kd.int .i64) w B y.length y) (hc2 : y.length ≤ c2) (hm : x.length < 4611686018427387904) (b : Bool) (hb : decide (x = y) = b) :
    Calls Try.prog 19 #[.slice A x.length c, .slice B y.length c2] w fun e w' => e = .returned (.bool b) ∧ Below w.heap.size w w' := by
  subst hb
  obtain ⟨k, hk⟩ := (same_f x y hm).get
  exact (burnishref06_Same.calls k A c x B c2 y _ w hA hc hB hc2 hk).mono fun e w' h => ⟨h.1, by obtain ⟨q, rfl⟩ := h.2.out; exact pw_below_drewN (Below.refl _ _) _⟩
theorem sameLists_any (A : Option Addr) (c : Nat) (x : List (List Int)) (B : Option Addr) (c2 : Nat) (w : World) (hA : Kd.C kG w A x.length x) (hc : x.length ≤ c) (hB : Kd.C kG w B x.length x) (hc2 : x.length ≤ c2) (hm : short x) :
    Calls Try.prog 11 #[.slice A x.length c, .slice B x.length c2] w fun e w' => e = .returned (.bool true) ∧ Below w.heap.size w w' := by
  obtain ⟨k, hk⟩ := (sameLists_f x x hm).get
  rw [decide_eq_true rfl] at hk
  exact (burnishref06_SameLists.calls k A c x B c2 x _ w hA hc hB hc2 hk).mono fun e w' h => ⟨h.1, by obtain ⟨q, rfl⟩ := h.2.out; exact pw_below_drewN (Below.refl _ _) _⟩
theorem sameB_any (A : Option Addr) (c : Nat) (x : List Bool) (B : Option Addr) (c2 : Nat) (w : World) (hA : Kd.C Kd.bool w A x.length x) (hc : x.length ≤ c) (hB : Kd.C Kd.bool w B x.length x) (hc2 : x.length ≤ c2) (hm : x.length < 4611686018427387904) :
    Calls Try.prog 16 #[.slice A x.length c, .slice B x.length c2] w fun e w' => e = .returned (.bool true) ∧ Below w.heap.size w w' := by
  obtain ⟨k, hk⟩ := (sameB_f x x hm).get
  rw [decide_eq_true rfl] at hk
  exact (burnishref06_SameBools.calls k A c x B c2 x _ w hA hc hB hc2 hk).mono fun e w' h => ⟨h.1, by obtain ⟨q, rfl⟩ := h.2.out; exact pw_below_drewN (Below.refl _ _) _⟩
theorem rev_any (A : Option Addr) (c : Nat) (G : List (List Int)) (w : World) (hC : Kd.C kG w A G.length G) (hc : G.length ≤ c) (hs : short G) (hE : chk G = 0 → edges G < 17592186044416) :
    Calls Try.prog 14 #[.agg #[.slice A G.length c]] w fun e w' => ∃ A' c', e = .returned (.agg #[.slice A' (revL G).length c']) ∧ (revL G).length ≤ c' ∧ Kd.C kG w' A' (revL G).length (revL G) ∧ Below w.heap.size w w' := by
  obtain ⟨k, hk⟩ := (rev_f G hs hE).get
  refine (digraph_Reverse.calls k A c G _ w hC hc hk).mono ?_
  rintro e w' ⟨v, rfl, hS, hb⟩
  obtain ⟨A', c', rfl, h1, h2⟩ := Kd.R_reads (Kd.S_R hS)
  exact ⟨A', c', rfl, h1, h2, hb⟩
theorem rreach_any (A : Option Addr) (c : Nat) (G : List (List Int)) (a : Int) (w : World) (hC : Kd.C kG w A G.length G) (hc : G.length ≤ c) (hs : short G) :
    Calls Try.prog 18 #[.agg #[.slice A G.length c], .int .i64 a] w fun e w' => ∃ A' c', e = .returned (.slice A' (reachL G a).length c') ∧ (reachL G a).length ≤ c' ∧ Kd.C Kd.bool w' A' (reachL G a).length (reachL G a) ∧ Below w.heap.size w w' := by
  obtain ⟨k, hk⟩ := (rreach_f G hs a).get
  refine (burnishref06_Reachable.calls k A c G a _ w hC hc hk).mono ?_
  rintro e w' ⟨v, rfl, hR, hb⟩
  obtain ⟨A', c', rfl, h1, h2⟩ := Kd.R_reads hR
  exact ⟨A', c', rfl, h1, h2, hb⟩
theorem rpostR_any (A : Option Addr) (c : Nat) (G : List (List Int)) (a : Int) (w : World) (hC : Kd.C kG w A G.length G) (hc : G.length ≤ c) (hs : short G) :
    Calls Try.prog 21 #[.agg #[.slice A G.length c], .int .i64 a] w fun e w' => ∃ A' c', e = .returned (.slice A' (post G a).length c') ∧ (post G a).length ≤ c' ∧ Kd.C (Kd.int .i64) w' A' (post G a).length (post G a) ∧ Below w.heap.size w w' := by
  obtain ⟨k, hk⟩ := (rpost_f G hs a).get
  refine (burnishref06_Postorder.calls k A c G a _ w hC hc hk).mono ?_
  rintro e w' ⟨v, rfl, hR, hb⟩
  obtain ⟨A', c', rfl, h1, h2⟩ := Kd.R_reads hR
  exact ⟨A', c', rfl, h1, h2, hb⟩
theorem rrpostR_any (A : Option Addr) (c : Nat) (G : List (List Int)) (a : Int) (w : World) (hC : Kd.C kG w A G.length G) (hc : G.length ≤ c) (hs : short G) (hl : G.length ≤ 65536) :
    Calls Try.prog 23 #[.agg #[.slice A G.length c], .int .i64 a] w fun e w' => ∃ A' c', e = .returned (.slice A' (post G a).reverse.length c') ∧ (post G a).reverse.length ≤ c' ∧ Kd.C (Kd.int .i64) w' A' (post G a).reverse.length (post G a).reverse ∧ Below w.heap.size w w' := by
  obtain ⟨k, hk⟩ := (rrpost_f G hs hl a).get
  refine (burnishref06_ReversePostorder.calls k A c G a _ w hC hc hk).mono ?_
  rintro e w' ⟨v, rfl, hR, hb⟩
  obtain ⟨A', c', rfl, h1, h2⟩ := Kd.R_reads hR
  exact ⟨A', c', rfl, h1, h2, hb⟩
theorem rshort_any (A : Option Addr) (c : Nat) (G : List (List Int)) (a b : Int) (w : World) (hC : Kd.C kG w A G.length G) (hc : G.length ≤ c) (hs : short G) (p : List Int) (hp : spath G a b p) :
    Calls Try.prog 25 #[.agg #[.slice A G.length c], .int .i64 a, .int .i64 b] w fun e w' => ∃ A' c', e = .returned (.slice A' p.length c') ∧ p.length ≤ c' ∧ Kd.C (Kd.int .i64) w' A' p.length p ∧ Below w.heap.size w w' := by
  obtain ⟨p', hp', hk'⟩ := rpath_f G hs a b
  obtain rfl := hp.uniq hp'
  obtain ⟨k, hk⟩ := hk'.get
  refine (burnishref06_ShortestPath.calls k A c G a b _ w hC hc hk).mono ?_
  rintro e w' ⟨v, rfl, hR, hb⟩
  obtain ⟨A', c', rfl, h1, h2⟩ := Kd.R_reads hR
  exact ⟨A', c', rfl, h1, h2, hb⟩

theorem field_succs (A : Option Addr) (n c : Nat) (w : World) : (Instr.field 24 (.agg #[.slice A n c]) 0).run Try.prog w = .ok (.slice A n c) w := by kernel_rfl
end Go.Proofs.Ytjkclhpibielfaa
