/- The frames of Postorder's stack, and the closure enter. -/
import Derived.Test.YtjkclhpibielfaaDigE
import Derived.Test.YtjkclhpibielfaaSetC
import Derived.Deep.QuietTactic
import Derived.BigQuiet
import Derived.Deep.RegionLaw
import Derived.Deep.LoopGhost
import Derived.WalkMore
set_option linter.unusedVariables false
set_option linter.unusedSimpArgs false
namespace Go.Proofs.Ytjkclhpibielfaa
open Go.RowKit Go.Proofs.YtjkclhpibielfaaW.PrintWords Go.Proofs.Ytjkclhpibielfaa.PDigraphTells Mem

theorem infoF : (Try.prog.info? 47).map (fun i => (i.zero, i.size, i.bytes)) = some (some (.agg #[(.int .i64 0), (.int .i64 0)]), 2, 16) := by kernel_rfl
def kF : Kd (Int × Nat) := Kd.iso (Kd.pair (Kd.int .i64) (Kd.int .i64)) (fun x : Int × Nat => (x.1, (x.2 : Int)))
theorem kF_open {w : World} {x : Int × Nat} {cs : List Value} (h : kF.K w x cs) : cs = [.int .i64 x.1, .int .i64 (x.2 : Int)] := by
  obtain ⟨_, _, rfl, rfl, rfl⟩ := h
  exact rfl
theorem kF_mkM (w : World) (base : Nat) (ok : Nat → Prop) (x : Int × Nat) : kF.M w base ok x [.int .i64 x.1, .int .i64 (x.2 : Int)] := ⟨[.int .i64 x.1], [.int .i64 (x.2 : Int)], rfl, rfl, rfl⟩
theorem add0 (g k : Nat) : (⟨g, 0, none⟩ : Addr).add k = ⟨g, k, none⟩ := by
  unfold Addr.add
  by_cases h : k = 0
  · subst h; simp
  · simp [h]
theorem add0' (a : Addr) : a.add 0 = a := by cases a; simp [Addr.add]
theorem R_free {α : Type} {d : Kd α} {e : Nat} {w : World} {ok : Nat → Prop} {g n cap : Nat} {xs : List α} (h : Kd.R d e w 0 ok (.slice (some ⟨g, 0, none⟩) n cap) xs) (j : Nat) : w.frozen? ⟨g, j, none⟩ = false := by
  obtain ⟨h0, inner, ⟨hl, ho2⟩, hr⟩ := h
  rcases ho2 with ⟨hv, _⟩ | ⟨g', cap', cur, hv, hb, hh, hnc', hcm, hcs, ht⟩
  · cases hv
  injection hv with ha _ hc
  injection ha with ha
  injection ha with hg
  subst hg
  exact free_at hh j
/-- A frame of one's own is read. -/
theorem R_atF {w : World} {ok : Nat → Prop} {g n cap : Nat} {xs : List (Int × Nat)} (h : Kd.R kF 47 w 0 ok (.slice (some ⟨g, 0, none⟩) n cap) xs) (i : Nat) (hi : i < xs.length) :
    w.cell? ⟨g, i * 2, none⟩ = some (.int .i64 (xs[i]).1) ∧ w.cell? ⟨g, i * 2 + 1, none⟩ = some (.int .i64 ((xs[i]).2 : Int)) ∧ w.frozen? ⟨g, i * 2, none⟩ = false ∧ w.frozen? ⟨g, i * 2 + 1, none⟩ = false := by
  obtain ⟨hn, hc, hC⟩ := Kd.R_reads' h
  obtain ⟨ad, c, e, _, hK, hc0⟩ := Kd.C_get hC (0, 0) (i : Int) (by omega) (by omega)
  injection e with e
  subst e
  obtain rfl := kF_open hK
  have e1 : xs.getD ((i : Int)).toNat (0, 0) = xs[i] := by simp [hi]
  rw [e1] at hc0
  have h1 := hc0 0 _ rfl
  have h2 := hc0 1 _ rfl
  rw [Int.toNat_natCast, show kF.sz = 2 from rfl, add0] at h1 h2
  exact ⟨h1, h2, R_free h _, R_free h _⟩
/-- A frame's second cell is written over. -/
theorem R_nextF {w : World} {ok : Nat → Prop} {g n cap : Nat} {xs : List (Int × Nat)} (h : Kd.R kF 47 w 0 ok (.slice (some ⟨g, 0, none⟩) n cap) xs) (i : Nat) (hi : i < xs.length) (t : Nat) :
    Kd.R kF 47 (w.setCell ⟨g, i * 2 + 1, none⟩ (.int .i64 (t : Int))) 0 ok (.slice (some ⟨g, 0, none⟩) n cap) (xs.set i (xs[i].1, t)) ∧ Kp ok w (w.setCell ⟨g, i * 2 + 1, none⟩ (.int .i64 (t : Int))) := by
  obtain ⟨hn, _, hC⟩ := Kd.R_reads' h
  obtain ⟨h1', h2', _, _⟩ := R_atF h i hi
  have := Kd.R_seg h (i : Int) (by omega) (by omega) (c := [.int .i64 (xs[i]).1, .int .i64 ((xs[i]).2 : Int)]) (seg := [.int .i64 (t : Int)]) (j := 1) (x' := (xs[i].1, t)) (okp := fun _ => False) rfl (fun j u hj => by
    rw [Int.toNat_natCast, show kF.sz = 2 from rfl]
    rcases j with _ | _ | j
    · simp at hj; rw [← hj]; exact h1'
    · simp at hj; rw [← hj]; exact h2'
    · simp at hj) (by show 1 + 1 ≤ 2; omega) (kF_mkM _ _ _ (xs[i].1, t)) (fun _ h => h.elim)
  rw [Int.toNat_natCast, show kF.sz = 2 from rfl] at this
  exact ⟨this.1, (Kp.refl ok w).grown this.2 (fun j hj => .inl (h.1 j (by simpa [Value.ownBlock] using hj)))⟩

set_option maxRecDepth 100000 in
set_option maxHeartbeats 1000000 in
theorem enter_any (n : Int) (p : Nat) (A : Option Addr) (c : Nat) (xs : List (Int × Nat)) (P : Nat → Prop) (w : World) (hp : w.heap[p]? = some (.cells #[.slice A xs.length c] 48 (0, 0))) (hR : Kd.R kF 47 w 0 P (.slice A xs.length c) xs) (hP : ¬ P p) (hm : xs.length ≤ 1000000) :
    Calls Try.prog 31 #[.int .i64 n, .pointer (some ⟨p, 0, none⟩)] w fun e w' => e = .returned (.tuple #[]) ∧ ∃ A' c', w'.heap[p]? = some (.cells #[.slice A' (xs ++ [(n, 0)]).length c'] 48 (0, 0)) ∧
      Kd.R kF 47 w' 0 (fun k => (P k ∨ w.heap.size ≤ k) ∧ k ≠ p) (.slice A' (xs ++ [(n, 0)]).length c') (xs ++ [(n, 0)]) ∧ Kp (fun k => P k ∨ k = p) w w' := by
  have c0 : w.cell? ⟨p, 0, none⟩ = some (.slice A xs.length c) := cell_at hp rfl
  have hX := Aside0.mk (And.intro hp (And.intro hR hP))
  have hlt := blk_lt' hp
  clear hp hR hP
  go_enter Try.func31, Try.ntmps31
  go_wp2_with (at_builtin; refine Kd.R_append kF (w0 := w) 0 (by rfl) (.tmp 3) (.tmp 6) 48 47 (.agg #[.int .i64 0, .int .i64 0]) 16 (by rfl) Try.underlying48 infoF rfl (by decide) (by decide) (.slice A xs.length c) xs (n, 0) [.int .i64 n, .int .i64 0] (fun k => (P k ∨ w.heap.size ≤ k) ∧ k ≠ p) (fun _ => False) (by rfl) (by rfl) (kF_mkM _ _ _ (n, 0)) (fun _ h => h.elim) (fun k hk => ⟨.inr hk, by omega⟩) (Kd.R_mono hX.out.2.1 (fun k hk => ⟨.inl hk, fun e => hX.out.2.2 (by rw [← e]; exact hk)⟩)) ((Kp.refl (fun _ => False) w).belowB (fun _ h => h.elim) (Nat.zero_le _)) (Nat.zero_le _) (by omega) ?_; intro v1 wa hRA hBA hgA hatA; obtain ⟨A1, c1, hv, _, _⟩ := Kd.R_reads hRA; subst hv; have hKA : Kp P w wa := (Kp.refl P w).grown hgA (fun k hk => .inl (hX.out.2.1.1 k hk)); have hpa : wa.heap[p]? = some (.cells #[.slice A xs.length c] 48 (0, 0)) := hKA.blk hX.out.1 hX.out.2.2; have d0 : wa.cell? ⟨p, 0, none⟩ = some (.slice A xs.length c) := cell_at hpa rfl; have f0 : wa.frozen? ⟨p, 0, none⟩ = false := free_at hpa 0; have H1 := Aside0.mk (And.intro hRA (And.intro hKA hpa)); clear hRA hBA hgA hatA hKA hpa)
  go_end0
  refine ⟨rfl, A1, c1, ?_, ?_, ?_⟩
  · have := set_at (j := 0) H1.out.2.2 (.slice A1 (xs.length + 1) c1)
    simpa using this
  · exact Kd.R_step H1.out.1 (fun k hk _ => Below.heap_setCell wa ⟨p, 0, none⟩ _ k (fun e => hk.2 e))
  · exact (H1.out.2.1.mono (fun k hk => .inl hk)).setCell (.inl (.inr rfl)) _
end Go.Proofs.Ytjkclhpibielfaa
