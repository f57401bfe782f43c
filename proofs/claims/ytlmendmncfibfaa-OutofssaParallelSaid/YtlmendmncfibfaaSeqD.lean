/- Package slices at pairs: Delete. -/
import Derived.Test.YtlmendmncfibfaaSeqC
import Derived.Deep.RegionLaw
set_option linter.unusedVariables false
set_option linter.unusedSimpArgs false
namespace Go.Proofs.Ytlmendmncfibfaa
open Go.RowKit Go.Proofs.YtlmendmncfibfaaW.PrintWords Go.Proofs.Ytlmendmncfibfaa.POutofssaSequentializes Mem

/-- Cells past a row's end are written. -/
theorem R_past {w : World} {ok : Nat → Prop} {g n cap m off : Nat} {xs : List S50} {seg : List Value} (h : Kd.R k50 50 w 0 ok (.slice (some ⟨g, 0, none⟩) n cap) xs) (hm : m ≤ xs.length) (ho : m * 2 ≤ off) (hs : off + seg.length ≤ cap * 2) :
    Kd.R k50 50 (w.setCells g off seg) 0 ok (.slice (some ⟨g, 0, none⟩) m cap) (xs.take m) ∧ Kp ok w (w.setCells g off seg) := by
  have h2 := Kd.R_take h hm
  obtain ⟨h0, inner, ⟨hl, ho2⟩, hr⟩ := h2
  have hfar : ∀ k, k ≠ g → (w.setCells g off seg).heap[k]? = w.heap[k]? := fun k hk => setCells_far seg _ k hk
  obtain ⟨s1, s2, s3, s4⟩ := setCells_same g seg off w
  rcases ho2 with ⟨hv, _⟩ | ⟨g', cap', cur, hv, hb, hh, hnc', hcm, hcs, ht⟩
  · cases hv
  injection hv with ha _ hc
  injection ha with ha
  injection ha with hg
  subst hg; subst hc
  have hfit : off + seg.length ≤ cur.size := by rw [hcs]; exact hs
  obtain ⟨cur', h3, h4, h5⟩ := setCells_row seg off w cur hh hfit
  refine ⟨⟨h0, inner, ⟨hl, .inr ⟨g, cap, cur', by rw [List.length_take, Nat.min_eq_left hm], hb, h3, hnc', hcm, by rw [h4, hcs], ?_⟩⟩, ?_⟩, ?_⟩
  · have hlen : (xs.take m).length = m := by rw [List.length_take]; omega
    rw [hlen, show k50.sz = 2 from rfl] at ht ⊢
    have hc2 : m * 2 ≤ (cur.toList.take off).length := by rw [List.length_take, Array.length_toList]; omega
    rw [h5, List.append_assoc, List.take_append_of_le_length hc2, List.take_take, Nat.min_eq_left ho]
    exact ht
  · exact hr.imp_ (fun x cs hp => by rw [k50_openM hp]; exact k50_mkM _ _ _ x)
  · exact (Kp.of_grownBy (row := some g) ⟨s1, s2, s3, by rw [s4]; exact Nat.le_refl _, fun k _ hk => hfar k (fun he => hk (by rw [he]))⟩).mono (fun k hk => h0 k (by rw [Option.some.inj hk]; rfl))

theorem run_clear50 (w : World) (ty : TypeId) (g o n c : Nat) (hn : 0 < n)
    (hc : ∀ j, j < n * 2 → (w.cell? ⟨g, o + j, none⟩).isSome = true) (hf : ∀ j, j < n * 2 → w.frozen? ⟨g, o + j, none⟩ = false) :
    (Builtin.clear_ #[37] ty #[.slice (some ⟨g, o, none⟩) n c]).run Try.prog w = .ok (.tuple #[]) (w.setCells g o (List.replicate (n * 2) (.int .i64 0))) := by
  have hzc : (Builtin.zeroCells (Value.agg #[.int .i64 0, .int .i64 0]).cells n).toList = List.replicate (n * 2) (.int .i64 0) := by
    have hz : (Value.agg #[.int .i64 0, .int .i64 0]).cells = #[.int .i64 0, .int .i64 0] := rfl
    rw [hz]
    simp [Builtin.zeroCells]
    apply List.ext_getElem
    · simp
    · intro i h1 h2
      have : i % 2 = 0 ∨ i % 2 = 1 := by omega
      rcases this with h | h <;> simp [h]
  have hst := run_storeCells_cells (P := Try.prog) g o (List.replicate (n * 2) (Value.int .i64 0)) 0 w (by simpa using hc) (by simpa using hf) (by intro v hv'; rw [List.eq_of_mem_replicate hv']; rfl)
  simp only [Nat.add_zero] at hst
  obtain ⟨m, rfl⟩ : ∃ m, n = m + 1 := ⟨n - 1, by omega⟩
  have hv : ∀ w, (zeroValue 50).run Try.prog w = .ok (.agg #[.int .i64 0, .int .i64 0]) w := fun w => Try.zeroValue50 w
  simp [Builtin.clear_, run_underlying Try.underlying37, hv, hzc, hst]
theorem R_blk {w : World} {ok : Nat → Prop} {g n cap : Nat} {xs : List S50} (h : Kd.R k50 50 w 0 ok (.slice (some ⟨g, 0, none⟩) n cap) xs) : ∃ cur, w.heap[g]? = some (.cells cur 50 (0, 0)) ∧ cur.size = cap * 2 ∧ ok g := by
  obtain ⟨h0, inner, ⟨hl, ho2⟩, hr⟩ := h
  rcases ho2 with ⟨hv, _⟩ | ⟨g', cap', cur, hv, hb, hh, hnc', hcm, hcs, ht⟩
  · cases hv
  injection hv with ha _ hc
  injection ha with ha
  injection ha with hg
  subst hg; subst hc
  exact ⟨cur, hh, hcs, h0 g rfl⟩
theorem R_cellsome {w : World} {ok : Nat → Prop} {g n cap : Nat} {xs : List S50} (h : Kd.R k50 50 w 0 ok (.slice (some ⟨g, 0, none⟩) n cap) xs) (j : Nat) (hj : j < cap * 2) : (w.cell? ⟨g, j, none⟩).isSome = true ∧ w.frozen? ⟨g, j, none⟩ = false := by
  obtain ⟨cur, hh, hs, _⟩ := R_blk h
  have hlt : j < cur.size := by omega
  refine ⟨?_, free_at hh j⟩
  rw [cell_at hh (Array.getElem?_eq_getElem hlt)]
  rfl

set_option maxHeartbeats 1000000 in
theorem delete_any (g n cap k : Nat) (ok : Nat → Prop) (xs : List S50) (w : World) (hR : Kd.R k50 50 w 0 ok (.slice (some ⟨g, 0, none⟩) (n + 1) cap) xs) (hn : n + 1 = xs.length) (hk : k < xs.length) (hm : xs.length ≤ 1000000) :
    Calls Try.prog 25 #[.slice (some ⟨g, 0, none⟩) (n + 1) cap, .int .i64 k, .int .i64 (k + 1 : Nat)] w fun e w' => e = .returned (.slice (some ⟨g, 0, none⟩) n cap) ∧ Kd.R k50 50 w' 0 ok (.slice (some ⟨g, 0, none⟩) n cap) (xs.eraseIdx k) ∧ Kp ok w w' := by
  have hR' := Aside0.mk hR
  have hnc := (Kd.R_reads' hR).2.1
  have e1 : ((k : Int) == ((k + 1 : Nat) : Int)) = false := by simp; omega
  have hkn : k < n + 1 := by omega
  have hkc : k ≤ cap := by omega
  have hk1 : k + 1 ≤ n + 1 := by omega
  have hk2 : (0 : Int) ≤ (k : Int) + 1 := by omega
  have hk3 : (k : Int) + 1 ≤ (n : Int) + 1 := by omega
  have hc9 : ¬ cap = n := by omega
  have hA : (if cap = k + 1 then some (⟨g, 0, none⟩ : Addr) else some ⟨g, (k + 1) * 2, none⟩) = if cap = k + 1 then some ⟨g, 0, none⟩ else (some (⟨g, 0, none⟩ : Addr)).map (·.add ((k + 1) * k50.sz)) := by
    by_cases e : cap = k + 1
    · rw [if_pos e, if_pos e]
    · rw [if_neg e, if_neg e]; simp [Addr.add, show k50.sz = 2 from rfl]
  obtain ⟨A, hif⟩ : ∃ A, (if cap = k + 1 then some (⟨g, 0, none⟩ : Addr) else some ⟨g, (k + 1) * 2, none⟩) = A := ⟨_, rfl⟩
  rw [hif] at hA
  have hA' := Aside0.mk hA
  clear hA
  have hn' := Aside0.mk hn
  have hm' : n ≤ 1000000 := by omega
  clear hR hn hk hm
  go_enter Try.func25, Try.ntmps25
  go_wp2_with fail
  go_region_law (first
    | ((refine Kd.R_delete_step k50 (w0 := w) 0 (by rfl) (.tmp 22) (.tmp 25) 37 50 (by rfl) Try.underlying37 (by kernel_rfl) (g := g) (n := n + 1) (c := cap) (k := k) (m := n - k) (c2 := cap - (k + 1)) (A := A) (xs := xs) (ok := ok) ?_ ?_ hA'.out (by omega) ?_ hkn ?_ (Nat.zero_le _) ?_)
       · rfl
       · rfl
       · exact Kd.R_drewN hR'.out _
       · exact ((Kp.refl (fun _ => False) w).drewN _).belowB (fun _ h => h.elim) (Nat.zero_le _)
       intro w1 hR1 hB1 hg1))
  all_goals
    have hcl := run_clear50 w1 0 g (n * 2) 1 (cap - n) (by omega) (fun j hj => (R_cellsome hR1 _ (by omega)).1) (fun j hj => (R_cellsome hR1 _ (by omega)).2)
    have hP := R_past (m := n) (off := n * 2) (seg := [.int .i64 0, .int .i64 0]) hR1 (by have := (Kd.R_reads' hR1).1; omega) (Nat.le_refl _) (by simp; omega)
    rw [List.take_of_length_le (by have := (Kd.R_reads' hR1).1; omega)] at hP
    have hk1' := ((Kp.refl ok w).drewN 1).grown hg1 (fun j hj => .inl (hR1.1 j (by simpa [Value.ownBlock] using hj)))
    have hF := Aside0.mk (And.intro hP.1 (hk1'.then_ hP.2 (fun _ h => .inl h)))
    clear hP hR1 hB1 hg1 hk1'
    go_wp2
    go_ret
    exact ⟨rfl, hF.out.1, hF.out.2⟩
end Go.Proofs.Ytlmendmncfibfaa
