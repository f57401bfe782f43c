/- The table of package intern: Key, Clone, New. -/
import Derived.Test.YtkjjkmipgpoijaaTabC
set_option linter.unusedVariables false
set_option linter.unusedSimpArgs false
namespace Go.Proofs.Ytkjjkmipgpoijaa
open Go.RowKit Go.Maps Go.Proofs.YtkjjkmipgpoijaaW.PrintWords Mem

/-- bytes.Clone: a new row of the same bytes (nil of nil). -/
theorem clone_any (n c : Nat) (A : Option Addr) (l : List Int) (w : World) (hk : Kd.C (Kd.int .u8) w A n l) (hn : n ≤ 140737488355328) :
    Calls Try.prog 22 #[.slice A n c] w fun e w' => ∃ v, e = .returned v ∧ Kd.R (Kd.int .u8) 5 w' 0 (fun k => w.heap.size ≤ k) v l ∧ Kp (fun _ => False) w w' := by
  have hl := hk.1
  rcases A with _ | ad
  · have h0 : n = 0 := by
      rcases Nat.eq_zero_or_pos n with h0 | h0
      · exact h0
      · obtain ⟨ad, h', _⟩ := hk.2.2 h0
        cases h'
    have hl0 : l = [] := List.eq_nil_of_length_eq_zero (by omega)
    subst hl0
    clear hl
    subst h0
    have hne := fun w => Lib.run_eql_slice_nil (P := Try.prog) w 22 5 none 0 c 0 0 Try.underlying22
    clear hk
    go_enter Try.func22, Try.ntmps22
    go_wp2
    go_ret
    exact ⟨_, rfl, Kd.R_nil _ _ _ _ _, Kp.refl _ _⟩
  · have hne := fun w => Lib.run_eql_slice_nil (P := Try.prog) w 22 5 (some ad) n c 0 0 Try.underlying22
    have hk' := Aside0.mk hk
    clear hk hl
    go_enter Try.func22, Try.ntmps22
    go_wp2_with (at_builtin; refine Kd.R_append_rows (Kd.int .u8) (Rr := fun x cs => cs = [.int .u8 x]) (w0 := w.alloc (.cells #[] 5)) 0 (by rfl) (.tmp 5) (.tmp 6) 22 5 (.int .u8 0) 1 (by rfl) Try.underlying22 info5 rfl (by decide) (by decide) (.slice (some ⟨w.heap.size, 0, none⟩) 0 0) [] l (some ad) n c (fun k => w.heap.size ≤ k) (fun _ => False) (by rfl) (by rfl) (own_empty w 0 5 _ (Nat.le_refl _)) (Kd.C_alloc hk'.out _) (fun _ _ h => h) (fun _ h => h.elim) (fun k hk => by simp at hk; omega) (Below.refl _ _) (Nat.zero_le _) (by simp; omega) ?_; intro v1 w2 hRA hBA hgA hatA; simp only [List.nil_append] at hRA; obtain ⟨A1, cA, rfl, hle, _⟩ := Kd.R_reads hRA)
    go_ret
    exact ⟨_, rfl, hRA, ((Kp.refl _ w).alloc _).grown hgA (fun k hk => .inr (by simp [Value.ownBlock] at hk; omega))⟩

/-- An element of an own row of rows: its cell, and that it reads. -/
theorem row_at {w : World} {ok : Nat → Prop} {e q : Nat} {v : Value} {ks : List (List Int)} {k : IntKind} (h : Kd.R (Kd.slice q (Kd.int k)) e w 0 ok v ks) (i : Nat) (hi : i < ks.length) :
    ∃ g cc A c, v = .slice (some ⟨g, 0, none⟩) ks.length cc ∧ ok g ∧ w.cell? ⟨g, i, none⟩ = some (.slice A (ks.getD i []).length c) ∧ Kd.C (Kd.int k) w A (ks.getD i []).length (ks.getD i []) ∧ (ks.getD i []).length ≤ c := by
  obtain ⟨h0, inner, ho, hr⟩ := h
  have hR : Kd.R (Kd.slice q (Kd.int k)) e w 0 ok v ks := ⟨h0, inner, ho, hr⟩
  rcases ho.2 with ⟨rfl, hz⟩ | ⟨g, cap, cur, rfl, _, hh, _⟩
  · omega
  · obtain ⟨A, c, he, hle, hC⟩ := Kd.R_reads hR
    injection he with e1 e2 e3
    subst e1
    obtain ⟨ad, cs, hA, hcs, hK, hcell⟩ := ReadsRow.get_ hC [] (i : Int) (by omega) (by omega)
    obtain ⟨A', c', rfl, hle', hC'⟩ := hK
    injection hA with hA
    subst hA
    refine ⟨g, cap, A', c', rfl, h0 g (by simp [Value.ownBlock]), ?_, ?_, ?_⟩
    · have := hcell 0 _ rfl
      simp [Kd.slice, add_plain] at this ⊢
      simpa using this
    · simpa using hC'
    · simpa using hle'

set_option maxHeartbeats 400000 in
theorem key_in (p : Nat) (ok : Nat → Prop) (lim : Int) (ks : List (List Int)) (i : Nat) (w : World) (ht : Tbl w ok p lim ks) (hi : i < ks.length) (hb : (ks.getD i []).length ≤ 140737488355328) (hm : ks.length ≤ 65536) :
    Calls Try.prog 19 #[.pointer (some ⟨p, 0, none⟩), .int .i64 i] w fun e w' => ∃ v, e = .returned v ∧ Kd.R (Kd.int .u8) 5 w' 0 (fun k => w.heap.size ≤ k) v (ks.getD i []) ∧ Kp (fun _ => False) w w' := by
  obtain ⟨bm, vk, hp, okp, okb, hM, hR⟩ := ht.ex
  obtain ⟨g, cc, A, c, rfl, okg, hcell, hC, hle⟩ := row_at hR i hi
  have c1 : w.cell? ⟨p, 1, none⟩ = some (.map (some bm)) := cell_at hp rfl
  have c2 : w.cell? ⟨p, 2, none⟩ = some (.slice (some ⟨g, 0, none⟩) ks.length cc) := cell_at hp rfl
  have X := Aside0.mk (And.intro hM (And.intro hR hp))
  clear hM hR hp ht
  have hC' := Aside0.mk hC
  clear hC
  obtain ⟨l, hl⟩ : ∃ l, l = ks.getD i [] := ⟨_, rfl⟩
  rw [← hl] at hcell hC' hle hb ⊢
  clear hl X
  have h0 : ¬ ((i : Int) < 0) := by omega
  have h1 : ¬ ((ks.length : Int) ≤ i) := by omega
  go_enter Try.func19, Try.ntmps19
  go_wp2_with (first
    | (go_at_call 13; refine (len_ok p bm _ _ _ _ c1 c2).mono ?_; rintro e w' ⟨rfl, rfl⟩)
    | (go_at_call 22; refine (clone_any _ _ _ l _ hC'.out hb).mono ?_; rintro e w' ⟨v, rfl, hR, hK⟩; obtain ⟨A1, cA, rfl, _, _⟩ := Kd.R_reads hR))
  go_ret
  exact ⟨_, rfl, hR, hK⟩

theorem key_out (p : Nat) (ok : Nat → Prop) (lim : Int) (ks : List (List Int)) (i : Int) (w : World) (ht : Tbl w ok p lim ks) (hi : i < 0 ∨ (ks.length : Int) ≤ i) :
    Calls Try.prog 19 #[.pointer (some ⟨p, 0, none⟩), .int .i64 i] w fun e w' => e = .returned (.slice none 0 0) ∧ w = w' := by
  obtain ⟨bm, vk, hp, okp, okb, hM, hR⟩ := ht.ex
  obtain ⟨B, cc, rfl, _, _⟩ := Kd.R_reads hR
  have c1 : w.cell? ⟨p, 1, none⟩ = some (.map (some bm)) := cell_at hp rfl
  have c2 : w.cell? ⟨p, 2, none⟩ = some (.slice B ks.length cc) := cell_at hp rfl
  have X := Aside0.mk (And.intro hM (And.intro hR hp))
  clear hM hR hp ht
  by_cases h0 : i < 0
  · go_enter Try.func19, Try.ntmps19
    go_wp2
    go_ret
    exact ⟨rfl, rfl⟩
  · have h1 : (ks.length : Int) ≤ i := by omega
    go_enter Try.func19, Try.ntmps19
    go_wp2_with (go_at_call 13; refine (len_ok p bm _ _ _ _ c1 c2).mono ?_; rintro e w' ⟨rfl, rfl⟩)
    go_ret
    exact ⟨rfl, rfl⟩
theorem key_nil (i : Int) (w : World) : Calls Try.prog 19 #[.pointer none, .int .i64 i] w fun e w' => e = .returned (.slice none 0 0) ∧ w = w' := by
  by_cases h0 : i < 0
  · go_enter Try.func19, Try.ntmps19
    go_wp2
    go_ret
    exact ⟨rfl, rfl⟩
  · have h1 : 0 ≤ i := by omega
    go_enter Try.func19, Try.ntmps19
    go_wp2_with (go_at_call 13; refine (len_nil _).mono ?_; rintro e w' ⟨rfl, rfl⟩)
    go_ret
    exact ⟨rfl, rfl⟩
theorem key_zero (p : Nat) (i : Int) (w : World) (c1 : w.cell? ⟨p, 1, none⟩ = some (.map none)) : Calls Try.prog 19 #[.pointer (some ⟨p, 0, none⟩), .int .i64 i] w fun e w' => e = .returned (.slice none 0 0) ∧ w = w' := by
  by_cases h0 : i < 0
  · go_enter Try.func19, Try.ntmps19
    go_wp2
    go_ret
    exact ⟨rfl, rfl⟩
  · have h1 : 0 ≤ i := by omega
    go_enter Try.func19, Try.ntmps19
    go_wp2_with (go_at_call 13; refine (len_zero p _ c1).mono ?_; rintro e w' ⟨rfl, rfl⟩)
    go_ret
    exact ⟨rfl, rfl⟩

def clip (n : Int) : Int := if n < 0 then 0 else if 65536 < n then 65536 else n
theorem clip_le (n : Int) : 0 ≤ clip n ∧ clip n ≤ 65536 := by unfold clip; split <;> (try split) <;> omega

theorem MapT.new (w : World) : MapT (w.alloc (.map #[] 0)) w.heap.size [] :=
  ⟨.map [], World.ownsMap_made _ _ _ _, fun s => rfl, fun s hs => by simp at hs⟩
theorem Tbl.new (w : World) (lim : Int) : Tbl ((w.alloc (.map #[] 0)).alloc (.cells #[.int .i64 lim, .map (some w.heap.size), .slice none 0 0] 48)) (fun k => w.heap.size ≤ k) (w.heap.size + 1) lim [] :=
  ⟨⟨w.heap.size, .slice none 0 0, by simpa using heap_alloc_new (w.alloc (.map #[] 0)) _, by simp, Nat.le_refl _, (MapT.new w).grown (Below.heap_alloc _ _ _ (by simp)), Kd.R_nil _ _ _ _ _⟩⟩
theorem new_any (n : Int) (w : World) :
    Calls Try.prog 11 #[.int .i64 n] w fun e w' => ∃ p, e = .returned (.pointer (some ⟨p, 0, none⟩)) ∧ Tbl w' (fun k => w.heap.size ≤ k) p (clip n) [] ∧ Kp (fun _ => False) w w' := by
  have hmm := @run_makeMap Try.prog
  obtain ⟨m, hm⟩ : ∃ m, m = clip n := ⟨_, rfl⟩
  have e : m = if n < 0 then 0 else if 65536 < n then 65536 else n := hm
  rw [← hm]
  by_cases h0 : n < 0
  · rw [if_pos h0] at e
    subst e
    clear hm
    go_enter Try.func11, Try.ntmps11
    go_wp2
    go_ret
    exact ⟨_, rfl, Tbl.new w _, ((Kp.refl _ w).alloc _).alloc _⟩
  · rw [if_neg h0] at e
    by_cases h1 : 65536 < n
    · rw [if_pos h1] at e
      subst e
      clear hm
      go_enter Try.func11, Try.ntmps11
      go_wp2
      go_ret
      exact ⟨_, rfl, Tbl.new w _, ((Kp.refl _ w).alloc _).alloc _⟩
    · rw [if_neg h1] at e
      rw [e]
      clear hm e
      have h2 : 0 ≤ n := by omega
      have h3 : n ≤ 65536 := by omega
      go_enter Try.func11, Try.ntmps11
      go_wp2
      go_ret
      exact ⟨_, rfl, Tbl.new w _, ((Kp.refl _ w).alloc _).alloc _⟩

end Go.Proofs.Ytkjjkmipgpoijaa
