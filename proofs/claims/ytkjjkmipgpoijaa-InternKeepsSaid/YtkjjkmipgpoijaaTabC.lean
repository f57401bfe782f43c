/- The table of package intern: Add of a new key. -/
import Derived.Test.YtkjjkmipgpoijaaTabB
import Derived.Deep.RegionLaw
import Derived.RegionTactic
set_option linter.unusedVariables false
set_option linter.unusedSimpArgs false
namespace Go.Proofs.Ytkjjkmipgpoijaa
open Go.RowKit Go.Maps Go.Proofs.YtkjjkmipgpoijaaW.PrintWords Mem

theorem info5 : (Try.prog.info? 5).map (fun i => (i.zero, i.size, i.bytes)) = some (some (.int .u8 0), 1, 1) := by kernel_rfl
theorem info22 : (Try.prog.info? 22).map (fun i => (i.zero, i.size, i.bytes)) = some (some (.slice none 0 0), 1, 24) := by kernel_rfl

theorem own_empty (W : World) (B e : Nat) (ok : Nat → Prop) (h : ok W.heap.size) : Kd.R (Kd.int .u8) e (W.alloc (.cells #[] e)) 0 ok (.slice (some ⟨W.heap.size, 0, none⟩) 0 0) [] := by
  refine ⟨fun k hk => ?_, [], World.ownsRow_made W #[] 0 (Nat.zero_le _) (Nat.zero_le _) rfl, Reps.none _ _⟩
  have : W.heap.size = k := by simpa [Value.ownBlock] using hk
  exact this ▸ h

set_option maxHeartbeats 400000 in
theorem add_full (p : Nat) (ok : Nat → Prop) (lim : Int) (ks : List (List Int)) (n c : Nat) (A : Option Addr) (l : List Int) (w : World) (ht : Tbl w ok p lim ks) (hk : Kd.C (Kd.int .u8) w A n l) (hn : (strOfNums l).size ≤ maxLen) (hin : kz l ∉ ks.map kz) (hl : lim ≤ ks.length) :
    Calls Try.prog 15 #[.pointer (some ⟨p, 0, none⟩), .slice A n c] w fun e w' => e = .returned (.tuple #[.int .i64 0, .bool false, .int .i64 13]) ∧ ∃ q, w' = w.drewN q := by
  obtain ⟨bm, vk, hp, okp, okb, hm, hR⟩ := ht.ex
  obtain ⟨B, cc, rfl, _, _⟩ := Kd.R_reads hR
  have c0 : w.cell? ⟨p, 0, none⟩ = some (.int .i64 lim) := cell_at hp rfl
  have c1 : w.cell? ⟨p, 1, none⟩ = some (.map (some bm)) := cell_at hp rfl
  have c2 : w.cell? ⟨p, 2, none⟩ = some (.slice B ks.length cc) := cell_at hp rfl
  have h1 := fun (q : Nat) => Kd.C_string (P := Try.prog) (w := w.drewN q) (src := 22) (dst := 9) (c := c) Try.underlying22 Try.underlying5 Try.underlying9 (Kd.C_drewN hk q)
  have h2 : ∀ q : Nat, _ := fun (q : Nat) => (hm.drewN q).look hn
  have hd : isIn (ks.map kz) (kz l) = false := by rw [← Bool.not_eq_true, isIn_iff]; exact hin
  rw [show (strOfNums l).data.toList = kz l from rfl] at h2
  have X := Aside0.mk (And.intro hk (And.intro hm (And.intro hR hin)))
  clear hk hm hR hin hp
  go_enter Try.func15, Try.ntmps15
  go_wp2_with (go_at_call 21; refine (made_ok p bm _ c1).mono ?_; rintro e w' ⟨rfl, rfl⟩)
  go_quiet (fail)
  go_wp2
  go_quiet (fail)
  go_wp2
  go_ret3
  exact ⟨rfl, _, World.drewN_drewN _ _ _⟩

set_option maxRecDepth 100000 in
set_option maxHeartbeats 1000000 in
theorem add_new (p : Nat) (ok : Nat → Prop) (lim : Int) (ks : List (List Int)) (n c : Nat) (A : Option Addr) (l : List Int) (w : World) (ht : Tbl w ok p lim ks) (hk : ∀ W, Kept w W ok → Kd.C (Kd.int .u8) W A n l)
    (hn : (strOfNums l).size ≤ maxLen) (hin : kz l ∉ ks.map kz) (hl : ks.length < lim) (hl2 : lim ≤ 65536) (hnl : n ≤ 140737488355328) :
    Calls Try.prog 15 #[.pointer (some ⟨p, 0, none⟩), .slice A n c] w fun e w' => e = .returned (.tuple #[.int .i64 ks.length, .bool true, .int .i64 0]) ∧
      Tbl w' (fun k => ok k ∨ w.heap.size ≤ k) p lim (ks ++ [l]) ∧ Kp ok w w' := by
  obtain ⟨bm, vk, hp, okp, okb, hm, hR⟩ := ht.ex
  obtain ⟨B, cc, rfl, _, _⟩ := Kd.R_reads hR
  have c0 : w.cell? ⟨p, 0, none⟩ = some (.int .i64 lim) := cell_at hp rfl
  have c1 : w.cell? ⟨p, 1, none⟩ = some (.map (some bm)) := cell_at hp rfl
  have c2 : w.cell? ⟨p, 2, none⟩ = some (.slice B ks.length cc) := cell_at hp rfl
  have h1 := fun (q : Nat) => Kd.C_string (P := Try.prog) (w := w.drewN q) (src := 22) (dst := 9) (c := c) Try.underlying22 Try.underlying5 Try.underlying9 (Kd.C_drewN (hk w (Kept.refl _ _)) q)
  have h2 : ∀ q : Nat, _ := fun (q : Nat) => (hm.drewN q).look hn
  have hd : isIn (ks.map kz) (kz l) = false := by rw [← Bool.not_eq_true, isIn_iff]; exact hin
  have hs : decide (lim ≤ (ks.length : Int)) = false := by simp; omega
  rw [show (strOfNums l).data.toList = kz l from rfl] at h2
  have h3 : ∀ q : Nat, (convert 22 9 (Value.slice A n c)).run Try.prog (w.drewN q).drew = Result.ok (Value.string (strOfNums l)) (w.drewN q).drew := fun q => h1 (q + 1)
  have hk' := Aside0.mk hk; have hm' := Aside0.mk hm; have hR' := Aside0.mk hR; have hin' := Aside0.mk hin; have hp' := Aside0.mk hp
  clear hk hm hR hin hp
  go_enter Try.func15, Try.ntmps15
  go_wp2_with (go_at_call 21; refine (made_ok p bm _ c1).mono ?_; rintro e w' ⟨rfl, rfl⟩)
  go_quiet (fail)
  go_wp2
  go_quiet (fail)
  go_wp2
  refine still_tail 7 (by kernel_rfl) (by kernel_rfl) ?_
  simp only [List.take_succ_cons, List.take_zero, List.drop_succ_cons, List.drop_zero]
  repeat still_step
  refine wpStill_nil ?_
  obtain ⟨es, ec, hbm⟩ := hm'.out.blk
  have hpb : p ≠ bm := fun e => by have h4 := hp'.out; rw [e, hbm] at h4; cases h4
  refine MapT.wp (w := (w.drewN _).drew) (T := ks.map kz) hm'.out hn (by simp [maxLen]; omega) hin'.out rfl (.tmp 42) (.tmp 44) (.tmp 45) rfl rfl rfl _ rfl (by simp) ?_
  intro w1 hM1 hg1
  have hpl := blk_lt' hp'.out
  have hp1 : w1.heap[p]? = some (.cells #[.int .i64 lim, .map (some bm), .slice B ks.length cc] 48 (0, 0)) := (hg1.block p hpl (by simpa using hpb)).trans hp'.out
  have d2 : w1.cell? ⟨p, 2, none⟩ = some (.slice B ks.length cc) := cell_at hp1 rfl
  have f2 : w1.frozen? ⟨p, 2, none⟩ = false := free_at hp1 2
  have K1 : Kp (fun k => k = bm) w w1 := ((Kp.refl _ w).drewN _).drew.grown hg1 (fun k hk => .inl (by simpa using hk.symm))
  have R1 : Kd.R (Kd.slice 5 (Kd.int .u8)) 22 w1 0 (fun k => (ok k ∧ k < w.heap.size ∧ k ≠ p ∧ k ≠ bm)) (.slice B ks.length cc) ks :=
    Kd.R_kept (Kd.R_mono (Kd.R_bound hR'.out) (fun k hk => ⟨hk.1.1, hk.2.2.1, hk.1.2⟩)) K1.kept (fun k hk => hk.2.2.2)
  have hw1 := K1.size
  have hpl1 := blk_lt' hp1
  have d5 : (w1.alloc (.cells #[] 5)).cell? ⟨p, 2, none⟩ = some (.slice B ks.length cc) := cell_at ((Below.heap_alloc w1 _ p hpl1).trans hp1) rfl
  clear h1 h2 h3 c0 c1 c2
  have R1' := Aside0.mk R1
  clear R1
  go_wp2
  go_region_law (first
    | ((refine Kd.R_append_rows_step (Kd.int .u8) (Rr := fun x cs => cs = [.int .u8 x]) (w0 := w1) 0 (by rfl) (.tmp 51) (.tmp 52) 22 5 (.int .u8 0) 1 (by rfl) Try.underlying22 info5 rfl (by decide) (by decide) (.slice (some ⟨w1.heap.size, 0, none⟩) 0 0) [] l A n c (fun k => w1.heap.size ≤ k) (fun _ => False) (by rfl) (by rfl) ?_ ?_ (fun _ _ h => h) (fun _ h => h.elim) ?_ ?_ (Nat.zero_le _) ?_ ?_)
       · exact Kd.R_drew (own_empty w1 0 5 _ (Nat.le_refl _))
       · exact hk'.out _ ((K1.mono (fun k hk => hk ▸ okb)).alloc _).drew.kept
       · intro k hk; simp at hk; omega
       · exact ((Below.refl _ _).alloc (Nat.zero_le _) _).drew
       · simp; omega
       intro v1 w2 hRA hBA hgA hatA
       simp only [List.nil_append] at hRA
       obtain ⟨A1, cA, rfl, hle, _⟩ := Kd.R_reads hRA
       have q2 : w2.heap[p]? = some (.cells #[.int .i64 lim, .map (some bm), .slice B ks.length cc] 48 (0, 0)) := (hgA.block p (by simp; omega) (by simp [Value.ownBlock]; omega)).trans ((Below.heap_alloc w1 _ p hpl1).trans hp1)
       have q3 : w2.cell? ⟨p, 2, none⟩ = some (.slice B ks.length cc) := cell_at q2 rfl
       have q5 : (w2.alloc (.cells #[.slice A1 l.length cA] 22)).cell? ⟨p, 2, none⟩ = some (.slice B ks.length cc) := cell_at ((Below.heap_alloc w2 _ p (blk_lt' q2)).trans q2) rfl)
    | ((refine Kd.R_append_step (Kd.slice 5 (Kd.int .u8)) (w0 := w2) 0 (by rfl) (.tmp 50) (.tmp 54) 43 22 (.slice none 0 0) 24 (by rfl) Try.underlying43 info22 rfl (by decide) (by decide) (.slice B ks.length cc) ks l [.slice A1 l.length cA] (fun k => (ok k ∧ k < w.heap.size ∧ k ≠ p ∧ k ≠ bm) ∨ w1.heap.size ≤ k) (fun k => w1.heap.size ≤ k) (by rfl) (by rfl) ?_ ?_ ?_ ?_ ?_ (Nat.zero_le _) ?_ ?_)
       · exact ⟨_, rfl, hRA⟩
       · intro k hk; refine ⟨.inr hk, fun e => ?_⟩; have := (R1'.out.1 k e.symm).2.1; omega
       · intro k hk; have := hgA.size; simp at this; right; omega
       · exact Kd.R_mono (Kd.R_grown (Kd.R_drew (Kd.R_alloc R1'.out _)) hgA (fun k hk e => by simp [Value.ownBlock] at e; have := hk.2.1; omega)) (fun k hk => .inl hk)
       · exact Below.refl _ _
       · omega
       intro v2 w3 hRB hBB hgB hatB
       obtain ⟨A2, cB, rfl, hle2, _⟩ := Kd.R_reads hRB
       have r2 : w3.heap[p]? = some (.cells #[.int .i64 lim, .map (some bm), .slice B ks.length cc] 48 (0, 0)) := (hgB.block p (blk_lt' q2) (fun e => (R1'.out.1 p e.symm).2.2.1 rfl)).trans q2
       have r3 : w3.cell? ⟨p, 2, none⟩ = some (.slice B ks.length cc) := cell_at r2 rfl
       have r4 : w3.frozen? ⟨p, 2, none⟩ = false := free_at r2 2))
  all_goals
    go_wp2
    go_ret3
    have hps : ∀ k, some k = (Value.slice B ks.length cc).ownBlock → ok k ∧ k < w.heap.size ∧ k ≠ p ∧ k ≠ bm := fun k e => R1'.out.1 k e.symm
    have hsA := hgA.size
    have hbl := blk_lt' hbm
    simp at hsA
    refine ⟨rfl, ⟨⟨bm, .slice A2 (ks ++ [l]).length cB, by simpa using set_at (j := 2) r2 _, .inl okp, .inl okb, ?_, ?_⟩⟩, ?_⟩
    · have e1 : (w3.setCell ⟨p, 2, none⟩ (.slice A2 (ks ++ [l]).length cB)).heap[bm]? = w1.heap[bm]? :=
        (Below.heap_setCell w3 _ _ bm (Ne.symm hpb)).trans ((hgB.block bm (by omega) (fun e => (hps bm e).2.2.2 rfl)).trans ((hgA.block bm (by simp; omega) (by simp [Value.ownBlock]; omega)).trans (Below.heap_alloc w1 _ bm (by omega))))
      have h6 := hM1.grown e1
      simpa [kz] using h6
    · refine Kd.R_mono (Kd.R_far (p := ⟨p, 2, none⟩) hRB (fun k hk => ?_) _) (fun k hk => ?_)
      · rcases hk with hk | hk
        · exact hk.2.2.1
        · show k ≠ p; omega
      · rcases hk with hk | hk
        · exact ⟨.inl hk.1, hk.2.2⟩
        · exact ⟨.inr (by omega), by omega, by omega⟩
    · refine ((((K1.mono (fun k hk => hk ▸ okb)).alloc _).drew.grown hgA (fun k hk => .inr ?_)).grown hgB (fun k hk => .inl (hps k hk.symm).1)).setCell (.inl okp) _
      simp [Value.ownBlock] at hk
      omega

end Go.Proofs.Ytkjjkmipgpoijaa
