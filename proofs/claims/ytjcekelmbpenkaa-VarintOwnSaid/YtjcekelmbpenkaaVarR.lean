/- The reference's reader: predicate and contracts. -/
import Derived.Test.YtjcekelmbpenkaaRefPure
import Derived.Test.YtjcekelmbpenkaaRoundWalk
set_option linter.unusedVariables false
set_option linter.unusedSimpArgs false
namespace Go.Proofs.Ytjcekelmbpenkaa
open Go.RowKit Go.Proofs.YtjcekelmbpenkaaW.PrintWords Mem VarPure

abbrev rrc (v : Value) (f : Int) : Array Value := #[.bool true, v, .int .i64 f]
structure RR (w : World) (ok : Nat → Prop) (p : Nat) (A : Option Addr) (c : Nat) (l : List Int) (f : Int) : Prop where
  hp : w.heap[p]? = some (.cells (rrc (.slice A l.length c) f) 51 (0, 0))
  okp : ok p
  hl : l.length ≤ 100000
  hc : l.length ≤ c
  hC : ∀ w1 : World, (∀ k, ok k → k ≠ p → k < w.heap.size → w1.heap[k]? = w.heap[k]?) → Kd.C Byt w1 A l.length l
  bs : Bs l
structure RRd (w : World) (ok : Nat → Prop) (p : Nat) (l : List Int) (f : Int) : Prop where
  ex : ∃ A c, RR w ok p A c l f
theorem RR.step {w w1 : World} {ok : Nat → Prop} {p c : Nat} {A : Option Addr} {l : List Int} {f : Int} (h : RR w ok p A c l f) (hm : ∀ k, ok k → k < w.heap.size → w1.heap[k]? = w.heap[k]?) : RR w1 ok p A c l f :=
  ⟨(hm p h.okp (blk_lt' h.hp)).trans h.hp, h.okp, h.hl, h.hc, fun w2 h2 => h.hC w2 (fun k hk hne hlt => by
    have e := hm k hk hlt
    have h3 : k < w1.heap.size := by
      have := Array.getElem?_eq_getElem hlt
      rw [← e] at this
      exact (Array.getElem?_eq_some_iff.1 this).1
    exact (h2 k hk hne h3).trans e), h.bs⟩
theorem RR.set {w w1 : World} {ok : Nat → Prop} {p c c' : Nat} {A A' : Option Addr} {l l' : List Int} {f f' : Int} (h : RR w ok p A c l f) (hp : w1.heap[p]? = some (.cells (rrc (.slice A' l'.length c') f') 51 (0, 0))) (hk : Kp (fun k => k = p) w w1)
    (hl : l'.length ≤ 100000) (hc : l'.length ≤ c') (hC : ∀ W, Kd.C Byt W A l.length l → Kd.C Byt W A' l'.length l') (hb : Bs l') : RR w1 ok p A' c' l' f' :=
  ⟨hp, h.okp, hl, hc, fun w2 h2 => hC w2 (h.hC w2 (fun k ho hne hlt => (h2 k ho hne (by have := hk.size; omega)).trans (hk.block hlt hne))), hb⟩
theorem RRd.step {w w1 : World} {ok : Nat → Prop} {p : Nat} {l : List Int} {f : Int} (h : RRd w ok p l f) (hm : ∀ k, ok k → k < w.heap.size → w1.heap[k]? = w.heap[k]?) : RRd w1 ok p l f := by
  obtain ⟨A, c, h⟩ := h.ex
  exact ⟨⟨A, c, h.step hm⟩⟩
theorem RRd.kept {w w1 : World} {ok S : Nat → Prop} {p : Nat} {l : List Int} {f : Int} (h : RRd w ok p l f) (hk : Kp S w w1) (hn : ∀ k, ok k → ¬ S k) : RRd w1 ok p l f :=
  h.step (fun k ho hlt => hk.block hlt (hn k ho))
theorem RRd.okp {w : World} {ok : Nat → Prop} {p : Nat} {l : List Int} {f : Int} (h : RRd w ok p l f) : ok p := by
  obtain ⟨A, c, h⟩ := h.ex
  exact h.okp

theorem rnew_any (n c : Nat) (A : Option Addr) (l : List Int) (w : World) (hk : Kd.C Byt w A n l) (hb : Bs l) (hn : n ≤ 100000) :
    Calls Try.prog 13 #[.slice A n c] w fun e w' => ∃ p, e = .returned (.pointer (some ⟨p, 0, none⟩)) ∧ RRd w' (fun k => w.heap.size ≤ k ∧ k < w'.heap.size) p l 0 ∧ Kp (fun _ => False) w w' := by
  have hl : l.length = n := hk.1
  have hk' := Aside0.mk hk
  clear hk
  go_enter Try.func13, Try.ntmps13
  go_wp2_with (at_builtin; refine Kd.R_append_rows Byt (Rr := fun x cs => cs = [.int .u8 x]) 0 (by rfl) (.tmp 3) (.tmp 4) 22 5 (.int .u8 0) 1 (by rfl) Try.underlying22 info5 rfl (by decide) (by decide) (.slice (some ⟨w.heap.size, 0, none⟩) 0 0) [] l A n c (fun k => w.heap.size ≤ k) (fun _ => False) (by rfl) (by rfl) (own_empty w 0 #[] _ (Nat.le_refl _) (Nat.zero_le _) rfl) (Kd.C_alloc hk'.out _) (fun _ _ h => h) (fun _ h => h.elim) (fun k hk => by simp at hk; omega) (Below.refl _ _) (Nat.zero_le _) (by simp; omega) ?_; intro v1 w2 hRA hBA hgA hatA; simp only [List.nil_append] at hRA; obtain ⟨A1, c1, rfl, hc1, _⟩ := Kd.R_reads hRA; have h1 : Aside0 (Kd.R Byt 5 w2 0 (fun k => w.heap.size ≤ k) (.slice A1 l.length c1) l ∧ Kp (fun _ => False) w w2) := ⟨hRA, (((Kp.refl _ w).alloc _).grown hgA (fun k hk => .inr (by simp [Value.ownBlock] at hk; omega)))⟩; clear hRA hBA hgA hatA)
  go_ret
  have hn1 : w.heap.size ≤ w2.heap.size := h1.out.2.size
  refine ⟨w2.heap.size, rfl, ⟨⟨A1, c1, ?_, ⟨hn1, by simp⟩, by omega, hc1, fun w3 h3 => ?_, hb⟩⟩, h1.out.2.alloc _⟩
  · first | exact heap_alloc_new _ _ | (rw [hl]; exact heap_alloc_new _ _)
  · have hb := Kd.R_bound h1.out.1
    obtain ⟨_, _, h4⟩ := Kd.R_reads' (Kd.R_step hb (w1 := w3) (fun k hk hlt => (h3 k ⟨hk.1, by simp; omega⟩ (by omega) (by simp; omega)).trans (Below.heap_alloc w2 _ k hlt)))
    exact h4

theorem rbad_any {w : World} {ok : Nat → Prop} {p : Nat} {l : List Int} {f : Int} (h : RRd w ok p l f) : Calls Try.prog 35 #[.pointer (some ⟨p, 0, none⟩)] w fun e w' => e = .returned (.bool (f != 0)) ∧ w' = w := by
  obtain ⟨A, c, g⟩ := h.ex
  have c0 : w.cell? ⟨p, 0, none⟩ = some (.bool true) := cell_at g.hp rfl
  have c2 : w.cell? ⟨p, 2, none⟩ = some (.int .i64 f) := cell_at g.hp rfl
  clear g h
  go_enter Try.func35, Try.ntmps35
  go_wp2
  go_ret
  exact ⟨rfl, rfl⟩
theorem rerr_any {w : World} {ok : Nat → Prop} {p : Nat} {l : List Int} {f : Int} (h : RRd w ok p l f) : Calls Try.prog 22 #[.pointer (some ⟨p, 0, none⟩)] w fun e w' => e = .returned (.int .i64 f) ∧ w' = w := by
  obtain ⟨A, c, g⟩ := h.ex
  have c0 : w.cell? ⟨p, 0, none⟩ = some (.bool true) := cell_at g.hp rfl
  have c2 : w.cell? ⟨p, 2, none⟩ = some (.int .i64 f) := cell_at g.hp rfl
  clear g h
  go_enter Try.func22, Try.ntmps22
  go_wp2
  go_ret
  exact ⟨rfl, rfl⟩
theorem rfail_any {w : World} {ok : Nat → Prop} {p : Nat} {l : List Int} {f : Int} (h : RRd w ok p l f) (e : Int) : Calls Try.prog 37 #[.pointer (some ⟨p, 0, none⟩), .int .i64 e] w fun r w' => r = .returned (.tuple #[]) ∧ RRd w' ok p [] e ∧ Kp (fun k => k = p) w w' := by
  obtain ⟨A, c, g⟩ := h.ex
  have c2 : w.cell? ⟨p, 2, none⟩ = some (.int .i64 f) := cell_at g.hp rfl
  have f2 : w.frozen? ⟨p, 2, none⟩ = false := free_at g.hp 2
  have hp1 : (w.setCell ⟨p, 2, none⟩ (.int .i64 e)).heap[p]? = some (.cells (rrc (.slice A l.length c) e) 51 (0, 0)) := by rw [set_at g.hp]; rfl
  have d1 : (w.setCell ⟨p, 2, none⟩ (.int .i64 e)).cell? ⟨p, 1, none⟩ = some (.slice A l.length c) := cell_at hp1 rfl
  have g1 : (w.setCell ⟨p, 2, none⟩ (.int .i64 e)).frozen? ⟨p, 1, none⟩ = false := free_at hp1 1
  have hg := Aside0.mk g
  have hp1' := Aside0.mk hp1
  clear g h hp1
  go_enter Try.func37, Try.ntmps37
  go_wp2
  go_end0
  refine ⟨rfl, ⟨⟨none, 0, hg.out.set ?_ (((Kp.refl _ w).setp 2 _).setp 1 _) (by simp) (by simp) (fun W _ => Kd.C_nil _ _) (fun x hx => by simp at hx)⟩⟩, ((Kp.refl _ w).setp 2 _).setp 1 _⟩
  rw [set_at hp1'.out]; rfl
theorem rlen_any {w : World} {ok : Nat → Prop} {p : Nat} {l : List Int} {f : Int} (h : RRd w ok p l f) : Calls Try.prog 24 #[.pointer (some ⟨p, 0, none⟩)] w fun e w' => e = .returned (.int .i64 ((if f ≠ 0 then 0 else l.length : Nat) : Int)) ∧ w' = w := by
  obtain ⟨A, c, g⟩ := h.ex
  have c1 : w.cell? ⟨p, 1, none⟩ = some (.slice A l.length c) := cell_at g.hp rfl
  have hh := Aside0.mk h
  clear g h
  by_cases hf : f = 0
  · subst hf
    go_enter Try.func24, Try.ntmps24
    go_wp2_with (go_at_call 35; refine (rbad_any hh.out).mono ?_; rw [show ((0 : Int) != 0) = false from rfl]; rintro r w1 ⟨rfl, rfl⟩)
    go_ret
    exact ⟨rfl, rfl⟩
  · have hd : (f != 0) = true := by simpa using hf
    rw [if_pos hf]
    go_enter Try.func24, Try.ntmps24
    go_wp2_with (go_at_call 35; refine (rbad_any hh.out).mono ?_; rw [hd]; rintro r w1 ⟨rfl, rfl⟩)
    go_ret
    exact ⟨rfl, rfl⟩
end Go.Proofs.Ytjcekelmbpenkaa
