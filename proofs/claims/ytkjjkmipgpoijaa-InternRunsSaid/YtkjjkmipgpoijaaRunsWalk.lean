/- InternRuns: the walk. -/
import Derived.Test.YtkjjkmipgpoijaaTabH
import Derived.Test.YtkjjkmipgpoijaaRunsPure
import Derived.Test.YtkjjkmipgpoijaaOpens
set_option linter.unusedVariables false
set_option linter.unusedSimpArgs false
namespace Go.Proofs.Ytkjjkmipgpoijaa
open Go.RowKit Go.Maps Go.Proofs.YtkjjkmipgpoijaaW.PrintWords Mem Go.Proofs.Ytkjjkmipgpoijaa.PInternRuns

theorem small_any (A : Option Addr) (c : Nat) (l : List S34) (w : World) (hC : Kd.C k34 w A l.length l) (hc : l.length ≤ c) (b : Bool) (hb : RunsPure.sm l = b) :
    Calls Try.prog 10 #[.slice A l.length c] w fun e w' => e = .returned (.bool b) ∧ Below w.heap.size w w' := by
  subst hb
  exact burnishlaw04_small.calls (l.length + 1) A c l _ w hC hc (RunsPure.small_f l)

/-- What holds between two rounds. -/
structure Inv (w w' : World) (p p2 : Nat) (lim : Int) (k : Nat) : Prop where
  ex : ∃ (ks : Ks) (ok ok2 : Nat → Prop), ks.length ≤ k ∧ (∀ l ∈ ks, l.length ≤ 200) ∧ Tbl w' ok p lim ks ∧ RTb w' ok2 p2 lim ks ∧ (∀ j, ok j → ¬ ok2 j) ∧ (∀ j, ok j → w.heap.size ≤ j ∧ j < w'.heap.size) ∧ (∀ j, ok2 j → w.heap.size ≤ j ∧ j < w'.heap.size) ∧ Kp (fun j => w.heap.size ≤ j) w w'

theorem Inv.start {w w1 w2 : World} {p p2 : Nat} {lim : Int} (h1 : Tbl w1 (fun k => w.heap.size ≤ k) p lim []) (k1 : Kp (fun _ => False) w w1) (h2 : RTb w2 (fun k => w1.heap.size ≤ k) p2 lim []) (k2 : Kp (fun _ => False) w1 w2) : Inv w w2 p p2 lim 0 := by
  refine ⟨[], fun k => w.heap.size ≤ k ∧ k < w1.heap.size, fun k => w1.heap.size ≤ k ∧ k < w2.heap.size, by simp, by simp, h1.bound.step (fun k hk hlt => k2.block hk.2 (fun h => h)), h2.bound, fun j h3 h4 => by omega, fun j h3 => ⟨h3.1, by have := k2.size; omega⟩, fun j h3 => ⟨by have := k1.size; omega, h3.2⟩, ?_⟩
  exact (k1.then_ k2 (fun _ h => h.elim)).mono (fun _ h => h.elim)
theorem Inv.moved {w W W' : World} {p p2 : Nat} {lim : Int} {k : Nat} (h : Inv w W p p2 lim k) (hk : Kp (fun _ => False) W W') : Inv w W' p p2 lim k := by
  obtain ⟨ks, ok, ok2, a1, a2, t1, t2, a3, a4, a5, kp⟩ := h.ex
  have hs := hk.size
  exact ⟨ks, ok, ok2, a1, a2, t1.step (fun j hj hlt => hk.block hlt (fun h => h)), t2.step (fun j hj hlt => hk.block hlt (fun h => h)), a3, fun j hj => ⟨(a4 j hj).1, by have := (a4 j hj).2; omega⟩, fun j hj => ⟨(a5 j hj).1, by have := (a5 j hj).2; omega⟩, kp.then_ hk (fun _ h => h.elim)⟩
theorem Inv.lower {w w1 W : World} {p p2 : Nat} {lim : Int} {k : Nat} (h : Inv w1 W p p2 lim k) (hk : Kp (fun _ => False) w w1) : Inv w W p p2 lim k := by
  obtain ⟨ks, ok, ok2, a1, a2, t1, t2, a3, a4, a5, kp⟩ := h.ex
  have hs := hk.size
  exact ⟨ks, ok, ok2, a1, a2, t1, t2, a3, fun j hj => ⟨by have := (a4 j hj).1; omega, (a4 j hj).2⟩, fun j hj => ⟨by have := (a5 j hj).1; omega, (a5 j hj).2⟩, (hk.mono (fun _ h => h.elim)).then_ kp (fun j hj => .inr (by omega))⟩
theorem Inv.more {w W : World} {p p2 : Nat} {lim : Int} {k : Nat} (h : Inv w W p p2 lim k) : Inv w W p p2 lim (k + 1) := by
  obtain ⟨ks, ok, ok2, a1, r⟩ := h.ex
  exact ⟨ks, ok, ok2, by omega, r⟩

theorem Inv.add {w W Wa Wb Wc : World} {p p2 : Nat} {lim : Int} {k : Nat} {ks' : Ks} {ok ok2 : Nat → Prop} (a3 : ∀ j, ok j → ¬ ok2 j) (a4 : ∀ j, ok j → w.heap.size ≤ j ∧ j < W.heap.size) (a5 : ∀ j, ok2 j → w.heap.size ≤ j ∧ j < W.heap.size) (kp : Kp (fun j => w.heap.size ≤ j) w W)
    (ka : Kp (fun _ => False) W Wa) (t1 : Tbl Wb (fun j => ok j ∨ Wa.heap.size ≤ j) p lim ks') (kb : Kp ok Wa Wb) (t2 : RTb Wc (fun j => ok2 j ∨ Wb.heap.size ≤ j) p2 lim ks') (kc : Kp ok2 Wb Wc) (hl : ks'.length ≤ k + 1) (hb : ∀ l ∈ ks', l.length ≤ 200) : Inv w Wc p p2 lim (k + 1) := by
  have s1 := ka.size
  have s2 := kb.size
  have s3 := kc.size
  have s0 := kp.size
  refine ⟨ks', fun j => (ok j ∨ Wa.heap.size ≤ j) ∧ j < Wb.heap.size, fun j => (ok2 j ∨ Wb.heap.size ≤ j) ∧ j < Wc.heap.size, hl, hb, t1.bound.step (fun j hj hlt => kc.block hj.2 (fun h => ?_)), t2.bound, fun j h3 h4 => ?_, fun j h3 => ?_, fun j h3 => ?_, ?_⟩
  · rcases hj.1 with h5 | h5
    · exact a3 j h5 h
    · have := (a5 j h).2; omega
  · rcases h3.1 with h5 | h5
    · rcases h4.1 with h6 | h6
      · exact a3 j h5 h6
      · omega
    · rcases h4.1 with h6 | h6
      · have := (a5 j h6).2; omega
      · omega
  · refine ⟨?_, by omega⟩
    rcases h3.1 with h5 | h5
    · exact (a4 j h5).1
    · omega
  · refine ⟨?_, by omega⟩
    rcases h3.1 with h5 | h5
    · exact (a5 j h5).1
    · omega
  · exact ((kp.then_ ka (fun _ h => h.elim)).then_ kb (fun j h => .inl (a4 j h).1)).then_ kc (fun j h => .inl (a5 j h).1)
theorem addK_len (lim : Int) (ks : Ks) (l : List Int) : (addK lim ks l).length ≤ ks.length + 1 := by
  unfold addK
  split
  · omega
  · split <;> simp
theorem addK_mem (lim : Int) (ks : Ks) (l : List Int) (h : ∀ x ∈ ks, x.length ≤ 200) (hl : l.length ≤ 200) : ∀ x ∈ addK lim ks l, x.length ≤ 200 := by
  unfold addK
  split
  · exact h
  · split
    · exact h
    · intro x hx
      rcases List.mem_append.1 hx with hx | hx
      · exact h x hx
      · rw [List.mem_singleton.1 hx]; exact hl

set_option maxRecDepth 100000 in
set_option maxHeartbeats 4000000 in
theorem runs_walk (lim : Int) (A : Option Addr) (c : Nat) (l : List S34) (w : World) (wl : (Lit.int .i64 lim).wf = true) (hc : l.length ≤ c) (hC : Kd.C k34 w A l.length l)
    (hg : l.length * 40 ≤ 140737488351232 ∧ ∀ x ∈ l, True ∧ True ∧ x.f2.length * 1 ≤ 140737488351232) :
    Calls Try.prog 4 #[.int .i64 lim, .slice A l.length c] w fun e w' => e = .returned (.bool true) ∧ Below w.heap.size w w' := by
  clear hg wl
  have hC' := Aside0.mk hC
  clear hC
  by_cases hs : RunsPure.sm l = false
  · have hs' := Aside0.mk hs
    clear hs
    go_enter Try.func4, Try.ntmps4
    go_wp2_with (first
      | (go_at_call 10; refine (small_any A c l _ hC'.out hc false hs'.out).mono ?_; rintro e w1 ⟨rfl, hb1⟩)
      | (go_at_call 7; refine (awake_any _).mono ?_; rintro e w2 ⟨rfl, hb2⟩))
    go_ret
    exact ⟨rfl, hb1.trans (hb2.mono hb1.size)⟩
  · have hs1 : RunsPure.sm l = true := by simpa using hs
    have hs' := Aside0.mk hs1
    have hlen : l.length ≤ 80 ∧ ∀ s ∈ l, s.f2.length ≤ 200 := by simpa [RunsPure.sm] using hs1
    have hkey := Aside0.mk hlen.2
    have hl80 := hlen.1
    clear hs hs1 hlen
    go_enter Try.func4, Try.ntmps4
    go_wp2_with (first
      | (go_at_call 10; refine (small_any A c l _ hC'.out hc true hs'.out).mono ?_; rintro e w1 ⟨rfl, hb1⟩)
      | (go_at_call 11; refine (new_any lim _).mono ?_; rintro e w2 ⟨p, rfl, T1, K1⟩; have T1' := Aside0.mk T1; clear T1)
      | (go_at_call 12; refine (rnew_any lim _).mono ?_; rintro e w3 ⟨p2, rfl, T2, K2⟩; have T2' := Aside0.mk T2; clear T2)
      | (go_at_call 7; refine (awake_any _).mono ?_; rintro e w4 ⟨rfl, hb2⟩))
    have hI : Inv w w4 p p2 (clip lim) 0 := ((Inv.start T1'.out K1 T2'.out K2).lower (Kp.of_below hb1 _)).moved (Kp.of_below hb2 _)
    have hI' := Aside0.mk hI
    clear hI K1 K2 hb1 hb2
    go_loopw [38] (fun v wr => ∃ k : Nat, k ≤ l.length ∧ v = .int .i64 k ∧ Aside0 (Inv w wr p p2 (clip lim) k)) (fun v wr => l.length - (intOf v).toNat)
    case atStart => exact ⟨0, Nat.zero_le _, rfl, hI'⟩
    case round =>
      obtain ⟨k, hk, rfl, hI⟩ := hrel
      by_cases hlt : k < l.length
      · obtain ⟨ks, ok, ok2, a1, a2, t1, t2, a3, a4, a5, kp⟩ := hI.out.ex
        obtain ⟨ad, A2, c2, hA, q0, q1, q2, hl2, hC2⟩ := at_T34 hC'.out k (by omega) (by omega)
        obtain ⟨x, hx⟩ : ∃ x, x = rd_T34 l k := ⟨_, rfl⟩
        have hxk : x.f2.length ≤ 200 := by
          have e : x = l[k] := by rw [hx]; simp [rd_T34, hlt]
          rw [e]
          exact hkey.out _ (List.getElem_mem hlt)
        rw [← hx] at q0 q1 q2 hl2 hC2
        clear hx
        obtain ⟨f0, f1, key⟩ := x
        subst hA
        have hbel : Below w.heap.size w wr := kp.below (fun _ h => h)
        have g0 : wr.cell? (ad.add (k * 3)) = some (.int .i64 f0) := (hbel.cell (World.block_lt_of_cell? w _ q0)).trans (by simpa using q0)
        have g1 : wr.cell? ⟨(ad.add (k * 3)).block, (ad.add (k * 3)).off + 1, none⟩ = some (.int .i64 f1) := (hbel.cell (World.block_lt_of_cell? w _ q1)).trans (by simpa using q1)
        have g2 : wr.cell? ⟨(ad.add (k * 3)).block, (ad.add (k * 3)).off + 2, none⟩ = some (.slice A2 key.length c2) := (hbel.cell (World.block_lt_of_cell? w _ q2)).trans (by simpa using q2)
        have hX := Aside0.mk (And.intro a1 (And.intro a2 (And.intro a3 (And.intro a4 (And.intro a5 (And.intro hbel hC2))))))
        have hT1 := Aside0.mk t1
        have hT2 := Aside0.mk t2
        have hKP := Aside0.mk kp
        have hk1 : (k : Int) < l.length := by omega
        have hks : ks.length ≤ 65536 := by omega
        have hxk' : key.length ≤ 200 := hxk
        clear a1 a2 a3 a4 a5 t1 t2 kp hbel q0 q1 q2 hC2 hI hxk hl2
        by_cases e0 : f0 = 0
        · subst e0
          have hE : Aside0 (Kd.R (Kd.int .u8) 5 ((wr.alloc (.cells #[.int .i64 0, .int .i64 f1, .slice A2 key.length c2] 34)).alloc (.cells #[] 5)) 0 (fun k => wr.heap.size + 1 ≤ k) (.slice (some ⟨wr.heap.size + 1, 0, none⟩) 0 0) []) :=
            ⟨by simpa using own_empty (wr.alloc (.cells #[.int .i64 0, .int .i64 f1, .slice A2 key.length c2] 34)) 0 5 (fun k => wr.heap.size + 1 ≤ k) (by simp)⟩
          have hCe : Aside0 (Kd.C (Kd.int .u8) ((wr.alloc (.cells #[.int .i64 0, .int .i64 f1, .slice A2 key.length c2] 34)).alloc (.cells #[] 5)) A2 key.length key) :=
            ⟨Kd.C_alloc (Kd.C_alloc (Kd.C_below hX.out.2.2.2.2.2.2 hX.out.2.2.2.2.2.1) _) _⟩
          go_wp2_with (first
            | (go_at_call 13; refine (len_tbl p ok _ ks _ (hT1.out.alloc _)).mono ?_; rintro e w5 ⟨rfl, rfl⟩)
            | (go_at_call 14; refine (rlen_ok p2 ok2 _ ks _ (hT2.out.step (fun k _ hk => Below.heap_alloc _ _ k hk))).mono ?_; rintro e w6 ⟨rfl, rfl⟩)
            | (at_builtin; refine Kd.R_append_rows (Kd.int .u8) (Rr := fun x cs => cs = [.int .u8 x]) 0 (by rfl) (.tmp 53) (.tmp 55) 22 5 (.int .u8 0) 1 (by rfl) Try.underlying22 info5 rfl (by decide) (by decide) (.slice (some ⟨wr.heap.size + 1, 0, none⟩) 0 0) [] key A2 key.length c2 (fun k => wr.heap.size + 1 ≤ k) (fun _ => False) (by rfl) (by rfl) hE.out hCe.out (fun _ _ h => h) (fun _ h => h.elim) (fun k hk => by simp at hk; omega) (Below.refl _ _) (Nat.zero_le _) (by simp; omega) ?_; intro v1 wa hRA hBA hgA hatA; simp only [List.nil_append] at hRA; obtain ⟨A1, cA, rfl, _, _⟩ := Kd.R_reads hRA; have ka : Kp (fun _ => False) wr wa := (((Kp.refl _ wr).alloc _).alloc _).grown hgA (fun k hk => .inr (by simp [Value.ownBlock] at hk; omega)); have qa : wa.heap[wr.heap.size]? = some (.cells #[.int .i64 0, .int .i64 f1, .slice A2 key.length c2] 34 (0, 0)) := (hgA.block wr.heap.size (by simp; omega) (by simp [Value.ownBlock])).trans ((Below.heap_alloc _ _ _ (by simp)).trans (heap_alloc_new wr _)); have qa2 : wa.cell? ⟨wr.heap.size, 2, none⟩ = some (.slice A2 key.length c2) := cell_at qa rfl; have hA := Aside0.mk (And.intro hRA (And.intro ka qa)); clear hRA hBA hgA hatA ka qa)
            | (go_at_call 15; refine (add_any p ok _ ks key.length cA A1 key wa (hT1.out.step (fun j hj hlt => hA.out.2.1.block hlt (fun h => h))) (Kd.C_kept_own hA.out.1 (fun j hj h => by have := (hX.out.2.2.2.1 j h).2; omega)) (by rw [str_size]; unfold maxLen; omega) (clip_le _).2 (by omega)).mono ?_; rintro e wb ⟨rfl, T3, K3⟩; have qb : wb.heap[wr.heap.size]? = some (.cells #[.int .i64 0, .int .i64 f1, .slice A2 key.length c2] 34 (0, 0)) := K3.blk hA.out.2.2 (fun h => by have := (hX.out.2.2.2.1 _ h).2; omega); have qb2 : wb.cell? ⟨wr.heap.size, 2, none⟩ = some (.slice A2 key.length c2) := cell_at qb rfl; have hB := Aside0.mk (And.intro T3 (And.intro K3 qb)); clear T3 K3 qb)
            | (go_at_call 16; refine (radd_any p2 ok2 _ ks key.length c2 A2 key wb (hT2.out.step (fun j hj hlt => (hB.out.2.1.block (by have := hA.out.2.1.size; omega) (fun h => hX.out.2.2.1 j h hj)).trans (hA.out.2.1.block hlt (fun h => h)))) (Kd.C_below hX.out.2.2.2.2.2.2 (hX.out.2.2.2.2.2.1.trans ((hA.out.2.1.belowB (fun _ h => h.elim) hX.out.2.2.2.2.2.1.size).trans (hB.out.2.1.belowB (fun j h => (hX.out.2.2.2.1 j h).1) (by have := hX.out.2.2.2.2.2.1.size; have := hA.out.2.1.size; omega))))) hks).mono ?_; rintro e wc ⟨rfl, T4, K4⟩; have hD := Aside0.mk (And.intro T4 K4); clear T4 K4))
          go_roundw
          case rel =>
            refine ⟨k + 1, by omega, by go_num, ⟨?_⟩⟩
            exact Inv.add hX.out.2.2.1 hX.out.2.2.2.1 hX.out.2.2.2.2.1 hKP.out hA.out.2.1 hB.out.1 hB.out.2.1 hD.out.1 hD.out.2 (by have := addK_len (clip lim) ks key; have := hX.out.1; omega) (addK_mem _ _ _ hX.out.2.1 hxk')
          case measure => simp [intOf]; omega
        · have e0' : (f0 == 0) = false := by simpa using e0
          clear e0
          have hMv : Aside0 (∀ W', Kp (fun _ => False) wr W' → Inv w W' p p2 (clip lim) (k + 1)) := ⟨fun W' h => (Inv.moved ⟨ks, ok, ok2, hX.out.1, hX.out.2.1, hT1.out, hT2.out, hX.out.2.2.1, hX.out.2.2.2.1, hX.out.2.2.2.2.1, hKP.out⟩ h).more⟩
          by_cases e1 : f0 = 1
          · subst e1
            clear e0'
            have hCw : Aside0 (Kd.C (Kd.int .u8) wr A2 key.length key) := ⟨Kd.C_below hX.out.2.2.2.2.2.2 hX.out.2.2.2.2.2.1⟩
            go_wp2_with (first
              | (go_at_call 13; refine (len_tbl p ok _ ks _ (hT1.out.alloc _)).mono ?_; rintro e w5 ⟨rfl, rfl⟩)
              | (go_at_call 14; refine (rlen_ok p2 ok2 _ ks _ (hT2.out.step (fun k _ hk => Below.heap_alloc _ _ k hk))).mono ?_; rintro e w6 ⟨rfl, rfl⟩)
              | (go_at_call 17; refine (find_any p ok _ ks key.length c2 A2 key _ (hT1.out.alloc _) (Kd.C_alloc hCw.out _) (by rw [str_size]; unfold maxLen; omega)).mono ?_; rintro e w7 ⟨rfl, q7, rfl⟩)
              | (go_at_call 18; refine (rfind_ok p2 ok2 _ ks key.length c2 A2 key _ (RTb.drewN (hT2.out.step (fun k _ hk => Below.heap_alloc _ _ k hk)) _) (Kd.C_drewN (Kd.C_alloc hCw.out _) _) hks).mono ?_; rintro e w8 ⟨rfl, q8, rfl⟩))
            go_roundw
            case rel => exact ⟨k + 1, by omega, by go_num, ⟨hMv.out _ (((Kp.refl _ wr).alloc _).drewN _)⟩⟩
            case measure => simp [intOf]; omega
          · have e1' : (f0 == 1) = false := by simpa using e1
            clear e1
            by_cases e2 : f0 = 2
            · subst e2
              clear e1' e0'
              go_wp2_with (first
                | (go_at_call 13; refine (len_tbl p ok _ ks _ (hT1.out.alloc _)).mono ?_; rintro e w5 ⟨rfl, rfl⟩)
                | (go_at_call 14; refine (rlen_ok p2 ok2 _ ks _ (hT2.out.step (fun k _ hk => Below.heap_alloc _ _ k hk))).mono ?_; rintro e w6 ⟨rfl, rfl⟩)
                | fail)
              have hS1 : (wr.alloc (.cells #[.int .i64 2, .int .i64 f1, .slice A2 key.length c2] 34)).cell? ⟨wr.heap.size, 1, none⟩ = some (.int .i64 f1) := cell_at (heap_alloc_new wr _) rfl
              go_region_held3 (fun w' => w'.cell? ⟨wr.heap.size, 1, none⟩ = some (.int .i64 f1)) (first | assumption | go_keep) (first
                | ((go_at_call 19; refine (key_any p ok _ ks f1 _ (hT1.out.step (fun k _ hk => Below.heap_alloc _ (.cells #[.int .i64 2, .int .i64 f1, .slice A2 key.length c2] 34) k hk) |>.drewN 1) hX.out.2.1 hks).mono ?_)
                   rintro e wa ⟨v, rfl, hRx, ka⟩
                   obtain ⟨Ax, cx, rfl, _, hCx⟩ := Kd.R_reads hRx
                   have qa : wa.cell? ⟨wr.heap.size, 1, none⟩ = some (.int .i64 f1) := cell_at (ka.blk (heap_alloc_new wr (.cells #[.int .i64 2, .int .i64 f1, .slice A2 key.length c2] 34)) (fun h => h)) rfl)
                | ((go_at_call 20; refine (rkey_any p2 ok2 _ ks f1 wa (hT2.out.step (fun k _ hk => (ka.block (by simp; omega) (fun h => h)).trans (Below.heap_alloc wr (.cells #[.int .i64 2, .int .i64 f1, .slice A2 key.length c2] 34) k hk))) hX.out.2.1 hks).mono ?_)
                   rintro e wb ⟨Ay, _, cy, rfl, rfl, hCy, kb⟩
                   have qb : wb.cell? ⟨wr.heap.size, 1, none⟩ = some (.int .i64 f1) := cell_at (kb.blk (ka.blk (heap_alloc_new wr (.cells #[.int .i64 2, .int .i64 f1, .slice A2 key.length c2] 34)) (fun h => h)) (fun h => h)) rfl))
              have hx1 := Kd.C_string (P := Try.prog) (src := 22) (dst := 9) (c := cx) Try.underlying22 Try.underlying5 Try.underlying9 (Kd.C_below hCx kb.none_below)
              have hy1 := Kd.C_string (P := Try.prog) (src := 22) (dst := 9) (c := cy) Try.underlying22 Try.underlying5 Try.underlying9 hCy
              rw [str_back] at hy1
              have hM2 := Aside0.mk (hMv.out _ ((((Kp.refl (fun _ => False) wr).alloc _).drew.then_ ka (fun _ h => h.elim)).then_ kb (fun _ h => h.elim)))
              clear hCx hCy hRx ka kb qa qb hS1
              go_wp2
              go_roundw
              case rel => exact ⟨k + 1, by omega, by go_num, hM2⟩
              case measure => simp [intOf]; omega
            · have e2' : (f0 == 2) = false := by simpa using e2
              clear e2
              go_wp2_with (first
                | (go_at_call 13; refine (len_tbl p ok _ ks _ (hT1.out.alloc _)).mono ?_; rintro e w5 ⟨rfl, rfl⟩)
                | (go_at_call 14; refine (rlen_ok p2 ok2 _ ks _ (hT2.out.step (fun k _ hk => Below.heap_alloc _ _ k hk))).mono ?_; rintro e w6 ⟨rfl, rfl⟩))
              go_roundw
              case rel => exact ⟨k + 1, by omega, by go_num, ⟨hMv.out _ ((Kp.refl _ wr).alloc _)⟩⟩
              case measure => simp [intOf]; omega
      · have hb9 : Below w.heap.size w wr := by
          obtain ⟨_, _, _, _, _, _, _, _, _, _, kp⟩ := hI.out.ex
          exact kp.below (fun _ h => h)
        have hB9 := Aside0.mk hb9
        clear hb9
        go_wp2
        go_ret
        exact ⟨rfl, hB9.out⟩

def fKind : Field := { name := "Kind", type := 3, offset := 0, embedded := false, tag := "", pkgPath := "", byteOffset := 0 }
def fN : Field := { name := "N", type := 3, offset := 1, embedded := false, tag := "", pkgPath := "", byteOffset := 8 }
def fKey : Field := { name := "Key", type := 22, offset := 2, embedded := false, tag := "", pkgPath := "", byteOffset := 16 }
/-- How a step reads. -/
theorem step_op {H : Type} {enc : TypeId × Value → H} {W : World} : Opens.Op enc Try.prog W 34 k34 (fun x => True ∧ True ∧ x.f2.length * 1 ≤ 140737488351232) :=
  (Opens.Op.struct (Opens.Fs.cons (f := fKind) (Opens.Op.int Try.underlying3) (Opens.Fs.cons (f := fN) (Opens.Op.int Try.underlying3) (Opens.Fs.one (f := fKey) (Opens.Op.slice (B := 1) (Opens.Op.int Try.underlying5) Try.underlying22 (by kernel_rfl) (by kernel_rfl)) (by kernel_rfl)) (by kernel_rfl) rfl) (by kernel_rfl) rfl) Try.underlying34 rfl (by kernel_rfl) (fun x : S34 => (x.f0, x.f1, x.f2)) (fun z => ⟨z.1, z.2.1, z.2.2⟩) (fun _ => rfl)).imp
    (fun (x : S34) h => ⟨trivial, trivial, h.2.2.1⟩)
end Go.Proofs.Ytkjjkmipgpoijaa
