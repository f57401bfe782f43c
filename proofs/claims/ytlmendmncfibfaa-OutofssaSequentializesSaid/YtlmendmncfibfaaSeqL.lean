/- The reference's Sequentialize. -/
import Derived.Test.YtlmendmncfibfaaSeqK
import Derived.Deep.QuietTactic
import Derived.BigQuiet
import Derived.Deep.RegionLaw
set_option linter.unusedVariables false
set_option linter.unusedSimpArgs false
namespace Go.Proofs.Ytlmendmncfibfaa
open Go.RowKit Go.Proofs.YtlmendmncfibfaaW.PrintWords Go.Proofs.Ytlmendmncfibfaa.POutofssaSequentializes Mem

/-- Behind an append to the instructions. -/
structure RM (w wr : World) (vl vo : Value) (pd o : List S50) : Prop where
  ex : ∃ P O : Nat → Prop, (∀ k, P k → w.heap.size ≤ k ∧ k < wr.heap.size) ∧ (∀ k, O k → w.heap.size ≤ k ∧ k < wr.heap.size) ∧ (∀ k, P k → ¬ O k) ∧ Kd.R k45 45 wr 0 P vl (pd.map t45) ∧ Kd.R k28 28 wr 0 O vo (o.map (cp 0))
  below : Below w.heap.size w wr
theorem RM.of {w wr W W1 wa : World} {P O : Nat → Prop} {vl vo v1 : Value} {pd o' : List S50} (hP : ∀ k, P k → w.heap.size ≤ k ∧ k < wr.heap.size) (hO : ∀ k, O k → w.heap.size ≤ k ∧ k < wr.heap.size) (hd : ∀ k, P k → ¬ O k) (r1 : Kd.R k45 45 wr 0 P vl (pd.map t45))
    (hk : Kp (fun _ => False) wr W) (hk1 : Kp (fun _ => False) W W1) (hg : W1.grownBy wa vo.ownBlock) (ho : ∀ k, vo.ownBlock = some k → O k) (hRA : Kd.R k28 28 wa 0 (fun k => O k ∨ W.heap.size ≤ k) v1 (o'.map (cp 0))) (hb : Below w.heap.size w wr) : RM w wa vl v1 pd o' := by
  have hkt : Kp O wr wa := ((hk.then_ hk1 (fun _ h => h.elim)).mono (fun _ h => h.elim)).grown hg (fun k hk => .inl (ho k hk))
  have s1 := hk.size
  have s2 := hkt.size
  have s3 := hb.size
  refine ⟨⟨P, fun k => (O k ∨ W.heap.size ≤ k) ∧ k < wa.heap.size, fun k h => ⟨(hP k h).1, by have := (hP k h).2; omega⟩, fun k h => ⟨?_, h.2⟩, fun k h1 h2 => ?_, Kd.R_step r1 (fun k h hlt => hkt.block hlt (fun h2 => hd k h h2)), Kd.R_mono (Kd.R_bound hRA) (fun k h => ⟨h.1, h.2.2.1⟩)⟩, hb.trans (hkt.belowB (fun k h => (hO k h).1) s3)⟩
  · rcases h.1 with h5 | h5
    · exact (hO k h5).1
    · omega
  · rcases h2.1 with h5 | h5
    · exact hd k h1 h5
    · have := (hP k h1).2; omega
theorem R_cell45 {w : World} {ok : Nat → Prop} {g n cap : Nat} {xs : List S45} (h : Kd.R k45 45 w 0 ok (.slice (some ⟨g, 0, none⟩) n cap) xs) (j : Nat) : w.frozen? ⟨g, j, none⟩ = false := by
  obtain ⟨h0, inner, ⟨hl, ho2⟩, hr⟩ := h
  rcases ho2 with ⟨hv, _⟩ | ⟨g', cap', cur, hv, hb, hh, hnc', hcm, hcs, ht⟩
  · cases hv
  injection hv with ha _ hc
  injection ha with ha
  injection ha with hg
  subst hg
  exact free_at hh j
theorem R_set45 {w : World} {ok : Nat → Prop} {g n cap : Nat} {xs : List S50} (h : Kd.R k45 45 w 0 ok (.slice (some ⟨g, 0, none⟩) n cap) (xs.map t45)) (i : Nat) (hi : i < xs.length) (t : Int) :
    Kd.R k45 45 (w.setCell ⟨g, i * 2 + 1, none⟩ (.int .i64 t)) 0 ok (.slice (some ⟨g, 0, none⟩) n cap) ((xs.set i ⟨xs[i].f0, t⟩).map t45) ∧ Kp ok w (w.setCell ⟨g, i * 2 + 1, none⟩ (.int .i64 t)) := by
  obtain ⟨hn, _, hC⟩ := Kd.R_reads' h
  rw [List.length_map] at hn
  obtain ⟨ad, e, h1', h2'⟩ := at45 hC i hi
  injection e with e
  subst e
  rw [add0] at h1' h2'
  have := Kd.R_seg h (i : Int) (by omega) (by omega) (c := [.int .i64 (xs[i]).f0, .int .i64 (xs[i]).f1]) (seg := [.int .i64 t]) (j := 1) (x' := t45 ⟨xs[i].f0, t⟩) (okp := fun _ => False) rfl (fun j u hj => by
    rw [Int.toNat_natCast, show k45.sz = 2 from rfl]
    rcases j with _ | _ | j
    · simp at hj; rw [← hj]; exact h1'
    · simp at hj; rw [← hj]; exact h2'
    · simp at hj) (by show 1 + 1 ≤ 2; omega) (k45_mkM _ _ _ (t45 ⟨xs[i].f0, t⟩)) (fun _ h => h.elim)
  rw [Int.toNat_natCast, show k45.sz = 2 from rfl, ← List.map_set] at this
  exact ⟨this.1, (Kp.refl ok w).grown this.2 (fun j hj => .inl (h.1 j (by simpa [Value.ownBlock] using hj)))⟩
theorem RM.put {w wr : World} {g n cap : Nat} {vo : Value} {pd o : List S50} (h : RM w wr (.slice (some ⟨g, 0, none⟩) n cap) vo pd o) (i : Nat) (hi : i < pd.length) (t : Int) :
    RM w (wr.setCell ⟨g, i * 2 + 1, none⟩ (.int .i64 t)) (.slice (some ⟨g, 0, none⟩) n cap) vo (pd.set i ⟨pd[i].f0, t⟩) o := by
  obtain ⟨P, O, hP, hO, hd, r1, r2⟩ := h.ex
  obtain ⟨h1, h2⟩ := R_set45 r1 i hi t
  have hs := h2.size
  exact ⟨⟨P, O, fun k hk => ⟨(hP k hk).1, by have := (hP k hk).2; omega⟩, fun k hk => ⟨(hO k hk).1, by have := (hO k hk).2; omega⟩, hd, h1, Kd.R_step r2 (fun k hk hlt => h2.block hlt (fun h3 => hd k h3 hk))⟩, h.below.trans (h2.belowB (fun k hk => (hP k hk).1) h.below.size)⟩
theorem RM.at_ {w wr : World} {g n cap : Nat} {vo : Value} {pd o : List S50} (h : RM w wr (.slice (some ⟨g, 0, none⟩) n cap) vo pd o) (i : Nat) (hi : i < pd.length) :
    wr.cell? ⟨g, i * 2 + 1, none⟩ = some (.int .i64 pd[i].f1) ∧ wr.frozen? ⟨g, i * 2 + 1, none⟩ = false := by
  obtain ⟨P, O, hP, hO, hd, r1, r2⟩ := h.ex
  obtain ⟨hn, _, hC⟩ := Kd.R_reads' r1
  obtain ⟨ad, e, h1', h2'⟩ := at45 hC i hi
  injection e with e
  subst e
  rw [add0] at h2'
  exact ⟨h2', R_cell45 r1 _⟩
theorem own_empty45 (W : World) (ok : Nat → Prop) (h : ok W.heap.size) : Kd.R k45 45 (W.alloc (.cells #[] 45)) 0 ok (.slice (some ⟨W.heap.size, 0, none⟩) 0 0) [] := by
  refine ⟨fun k hk => ?_, [], World.ownsRow_made W #[] 0 (Nat.zero_le _) (Nat.zero_le _) rfl, Reps.none _ _⟩
  have : W.heap.size = k := by simpa [Value.ownBlock] using hk
  exact this ▸ h
theorem own_one (W : World) (v : Int) : Kd.R (Kd.int .i64) 3 (W.alloc (.cells #[.int .i64 v] 3)) 0 (fun k => k = W.heap.size) (.slice (some ⟨W.heap.size, 0, none⟩) 1 1) [v] := by
  refine Kd.R_of_own ?_ (fun k hk => ?_)
  · have h := World.ownsRow_lit (base := 0) (e := 3) (size := 1) W #[.int .i64 v] 1 (Nat.zero_le _) (by unfold maxLen; omega) (by simp)
    simpa [encs] using h
  · have : W.heap.size = k := by simpa [Value.ownBlock] using hk
    exact this.symm
theorem free_len (A : Option Addr) (c : Nat) (l : List S50) (r : Int) (w : World) (hC : Kd.C k45 w A (l.map t45).length (l.map t45)) (hc : l.length ≤ c) (hm : l.length ≤ 1000000) (hr : frI l = r) :
    Calls Try.prog 17 #[.slice A l.length c] w fun e w' => e = .returned (.int .i64 r) ∧ ∃ q, w' = w.drewN q := by
  have h := free_any A c l w hC (by rw [List.length_map]; exact hc) hm
  rw [List.length_map, hr] at h
  exact h

set_option maxRecDepth 100000 in
set_option maxHeartbeats 2000000 in
theorem rseq_main (A : Option Addr) (c : Nat) (dst : List Int) (B : Option Addr) (c2 : Nat) (src : List Int) (t : Int) (w : World) (hA : Kd.C (Kd.int .i64) w A dst.length dst) (hc : dst.length ≤ c) (hB : Kd.C (Kd.int .i64) w B src.length src) (hc2 : src.length ≤ c2) (hm : dst.length ≤ 1000) (hm2 : src.length ≤ 1000)
    (h1 : dst.length = src.length) (h3 : t ∉ dst) (h4 : t ∉ src) :
    Calls Try.prog 8 #[.slice A dst.length c, .slice B src.length c2, .int .i64 t] w fun e w' => ∃ A' c', e = .returned (.slice A' (seqR dst src t).length c') ∧ Kd.C k28 w' A' (seqR dst src t).length (seqR dst src t) ∧ Below w.heap.size w w' := by
  have hX := Aside0.mk (And.intro hA (And.intro hc (And.intro hB (And.intro hc2 (And.intro h1 (And.intro h3 h4))))))
  have h1'' : ((dst.length : Int) != src.length) = false := by simp [h1]
  have h1' : ((dst.length : Int) == src.length) = true := by simp [h1]
  have e1 : dst.count t = 0 := List.count_eq_zero_of_not_mem h3
  have e2 : src.count t = 0 := List.count_eq_zero_of_not_mem h4
  have hE := Aside0.mk (And.intro e1 e2)
  obtain ⟨res, hres⟩ : ∃ res, seqR dst src t = res := ⟨_, rfl⟩
  rw [hres]
  have hR := Aside0.mk hres
  clear h1 hA hB hc hc2 h3 h4 e1 e2 hres
  go_enter Try.func8, Try.ntmps8
  go_wp2_with (first
    | (go_at_call 16; with_reducible refine (count_is A c dst t 0 _ hX.out.1 hX.out.2.1 (by omega) hE.out.1).mono ?_; rintro e w1 ⟨rfl, q1, rfl⟩)
    | (go_at_call 16; with_reducible refine (count_is B c2 src t 0 _ (Kd.C_drewN hX.out.2.2.1 _) hX.out.2.2.2.1 (by omega) hE.out.2).mono ?_; rintro e w2 ⟨rfl, q2, rfl⟩))
  have hI0 : Aside0 (Kd.R k45 45 (w.drewN (q1 + q2)) 0 (fun k => w.heap.size ≤ k) (.slice none 0 0) ((pre dst src 0).map t45) ∧ Below w.heap.size w (w.drewN (q1 + q2)) ∧ ∀ j (h : j < dst.length), j < 0 → dst.count dst[j] ≤ 1) := ⟨Kd.R_nil _ _ _ _ _, pw_below_drewN (Below.refl _ _) _, fun j h hj => by omega⟩
  go_loopg [7, 30] dst.length (fun q vl v wi => ∃ (i : Nat) (Al : Option Addr) (cl : Nat), i + q = dst.length ∧ v = .int .i64 i ∧ vl = .slice Al (pre dst src i).length cl ∧ Aside0 (Kd.R k45 45 wi 0 (fun k => w.heap.size ≤ k) (.slice Al (pre dst src i).length cl) ((pre dst src i).map t45) ∧ Below w.heap.size w wi ∧ ∀ j (h : j < dst.length), j < i → dst.count dst[j] ≤ 1))
  case atStart => exact ⟨0, none, 0, by omega, rfl, rfl, hI0⟩
  case round =>
    obtain ⟨i, Al, cl, hi, rfl, rfl, hJ⟩ := hrel
    clear hI0
    by_cases hlt : i < dst.length
    · have hlti : (i : Int) < dst.length := by omega
      obtain ⟨gk1, rfl⟩ : ∃ q, gk = q + 1 := ⟨gk - 1, by omega⟩
      have hlt2 : i < src.length := by rw [← hX.out.2.2.2.2.1]; exact hlt
      have hlt2i : (i : Int) < src.length := by omega
      obtain ⟨ad, eA, a0⟩ := Kd.at_int (Kd.C_below hX.out.1 hJ.out.2.1) (i : Int) (by omega) hlti
      obtain ⟨bd, eB, b0⟩ := Kd.at_int (Kd.C_below hX.out.2.2.1 hJ.out.2.1) (i : Int) (by omega) hlt2i
      rw [rd_get dst i hlt, Int.toNat_natCast] at a0
      rw [rd_get src i hlt2, Int.toNat_natCast] at b0
      subst eA
      subst eB
      obtain ⟨x, hx⟩ : ∃ x, x = dst[i] := ⟨_, rfl⟩
      obtain ⟨y, hy⟩ : ∃ y, y = src[i] := ⟨_, rfl⟩
      rw [← hx] at a0
      rw [← hy] at b0
      obtain ⟨n, hn⟩ : ∃ n, dst.count x = n := ⟨_, rfl⟩
      have hY := Aside0.mk (And.intro hx (And.intro hy hn))
      have hnl := List.count_le_length (a := x) (l := dst)
      rw [hn] at hnl
      have hni : (n : Int) ≤ 1000 := by omega
      clear hx hy hn
      by_cases hbig : 1 < n
      · have hbi : (1 : Int) < n := by omega
        have hnil : res = [] := by
          rw [← hR.out]
          unfold seqR good
          have : ¬ dst.Nodup := fun hd => by have h9 := List.nodup_iff_count.1 hd x; rw [hY.out.2.2] at h9; omega
          simp [this]
        subst hnil
        go_wp2_with (go_at_call 16; refine (count_is (some ad) c dst x n _ (Kd.C_below hX.out.1 hJ.out.2.1) hX.out.2.1 (by omega) hY.out.2.2).mono ?_; rintro e w3 ⟨rfl, q3, rfl⟩)
        go_ret
        exact ⟨_, _, rfl, C_none28 _, by repeat (first | exact hJ.out.2.1 | apply pw_below_drewN)⟩
      · have hsm : (n : Int) ≤ 1 := by omega
        have hcn : ∀ j (h : j < dst.length), j < i + 1 → dst.count dst[j] ≤ 1 := by
          intro j h hj
          rcases Nat.lt_or_ge j i with h5 | h5
          · exact hJ.out.2.2 j h h5
          · obtain rfl : j = i := by omega
            rw [← hY.out.1, hY.out.2.2]; omega
        have hCN := Aside0.mk hcn
        clear hcn
        by_cases hxy : x = y
        · have hp := pre_miss dst src i hlt hlt2 (by rw [← hY.out.1, ← hY.out.2.1]; exact hxy)
          have hp' := Aside0.mk hp
          subst hxy
          clear hp
          go_wp2_with (go_at_call 16; refine (count_is (some ad) c dst x n _ (Kd.C_below hX.out.1 hJ.out.2.1) hX.out.2.1 (by omega) hY.out.2.2).mono ?_; rintro e w3 ⟨rfl, q3, rfl⟩)
          go_quiet (fail)
          go_wp2
          go_roundg gk1
          case rel => exact ⟨i + 1, Al, cl, by omega, by go_num, by rw [hp'.out], ⟨by rw [hp'.out]; exact Kd.R_drewN hJ.out.1 _, pw_below_drewN hJ.out.2.1 _, hCN.out⟩⟩
          case measure => omega
        · have hp := pre_hit dst src i hlt hlt2 (by rw [← hY.out.1, ← hY.out.2.1]; exact hxy)
          rw [← hY.out.1, ← hY.out.2.1] at hp
          have hp' := Aside0.mk hp
          have x1 : (x == y) = false := by simpa using hxy
          have x2 : (x != y) = true := by simpa using hxy
          have hpl := pre_len dst src i
          clear hp
          go_wp2_with (go_at_call 16; refine (count_is (some ad) c dst x n _ (Kd.C_below hX.out.1 hJ.out.2.1) hX.out.2.1 (by omega) hY.out.2.2).mono ?_; rintro e w3 ⟨rfl, q3, rfl⟩)
          go_quiet (fail)
          go_wp2_with fail
          obtain ⟨W, hW⟩ : ∃ W, (wr.drewN q3).drewN nq = W := ⟨_, rfl⟩
          have hKW : Kp (fun _ => False) wr W := by rw [← hW]; exact ((Kp.refl _ wr).drewN _).drewN _
          have hRW : Kd.R k45 45 W 0 (fun k => w.heap.size ≤ k) (.slice Al (pre dst src i).length cl) ((pre dst src i).map t45) := Kd.R_step hJ.out.1 (fun k _ hk => hKW.none_below.block k hk)
          have aW : W.cell? (ad.add i) = some (.int .i64 x) := by rw [← hW]; exact a0
          have bW : W.cell? (bd.add i) = some (.int .i64 y) := by rw [← hW]; exact b0
          have hQ := Aside0.mk (And.intro hRW (And.intro hKW (Kd.R_reads' hRW).1))
          rw [hW]
          clear hW hKW hRW a0 b0
          obtain ⟨np_, hnp⟩ : ∃ m, (pre dst src i).length = m := ⟨_, rfl⟩
          rw [hnp] at hQ hpl ⊢
          have hwsz : w.heap.size ≤ W.heap.size := Nat.le_trans hJ.out.2.1.size hQ.out.2.1.size
          go_region_law (first
            | ((rw [show (W.alloc (.cells #[.int .i64 x, .int .i64 y] 45)).drew = W.drew.alloc (.cells #[.int .i64 x, .int .i64 y] 45) from rfl]; refine Kd.R_append_step k45 (w0 := W) 0 (by rfl) (.tmp 49) (.tmp 59) 43 45 (.agg #[.int .i64 0, .int .i64 0]) 16 (by rfl) Try.underlying43 info45 rfl (by decide) (by decide) (.slice Al np_ cl) ((pre dst src i).map t45) ⟨x, y⟩ [.int .i64 x, .int .i64 y] (fun k => w.heap.size ≤ k) (fun _ => False) (by rfl) (by rfl) ?_ ?_ ?_ ?_ ?_ (Nat.zero_le _) ?_ ?_)
               · exact k45_mkM _ _ _ ⟨x, y⟩
               · intro k hk; exact hk.elim
               · intro k hk; exact Nat.le_trans hwsz hk
               · exact Kd.R_drewN hQ.out.1 _
               · exact ((Kp.refl (fun _ => False) W).drewN _).belowB (fun _ h => h.elim) (Nat.zero_le _)
               · rw [List.length_map]; omega
               intro v1 wa hRA hBA hgA hatA))
          all_goals
            obtain ⟨A1, cA, hv, _, _⟩ := Kd.R_reads hRA
            rw [show ((pre dst src i).map t45 ++ [(⟨x, y⟩ : S45)]).length = (pre dst src (i + 1)).length by rw [hp'.out]; simp] at hv
            subst hv
            have hR2 : Kd.R k45 45 wa 0 (fun k => w.heap.size ≤ k) (.slice A1 (pre dst src (i + 1)).length cA) ((pre dst src (i + 1)).map t45) := by
              rw [show (pre dst src (i + 1)).map t45 = (pre dst src i).map t45 ++ [(⟨x, y⟩ : S45)] by rw [hp'.out, List.map_append]; rfl]
              exact hRA
            have hB2 : Below w.heap.size w wa := hJ.out.2.1.trans ((((hQ.out.2.1.mono (S' := fun k => w.heap.size ≤ k) (fun _ h => h.elim)).drewN 1).grown hgA (fun k hk => .inl (hQ.out.1.1 k hk))).belowB (fun k hk => hk) hJ.out.2.1.size)
            have hZ := Aside0.mk (And.intro hR2 (And.intro hB2 hCN.out))
            clear hR2 hB2 hRA hBA hgA hatA
            go_wp2
            go_roundg gk1
            case rel => exact ⟨i + 1, A1, cA, by omega, by go_num, rfl, hZ⟩
            case measure => omega
    · have hie : i = dst.length := by omega
      have hnd : dst.Nodup := nodup_of_counts dst (fun j h => hJ.out.2.2 j h (by omega))
      obtain ⟨pd, hpd⟩ : ∃ pd, pre dst src i = pd := ⟨_, rfl⟩
      have hpl := pre_len dst src i
      rw [hpd] at hpl
      have hfull : (List.zipWith S50.mk dst src).filter np = pd := by
        rw [← hpd]; unfold pre; rw [List.take_of_length_le (by rw [List.length_zipWith]; omega)]
      have hres : (fin t (mu pd) pd []).map (cp 0) = res := by
        rw [← hR.out]
        unfold seqR good ord
        simp only [hX.out.2.2.2.2.1, hnd, hX.out.2.2.2.2.2.1, hX.out.2.2.2.2.2.2, hfull]
        simp
      obtain ⟨ro, hro⟩ : ∃ ro, fin t (mu pd) pd [] = ro := ⟨_, rfl⟩
      rw [hro] at hres
      have hI : RI w wr t (.slice Al pd.length cl) (.slice none 0 0) pd [] (mu pd) ro := by
        have h9 := hJ.out.1
        rw [hpd] at h9
        exact ⟨⟨fun k => w.heap.size ≤ k ∧ k < wr.heap.size, fun _ => False, fun k hk => hk, fun k hk => hk.elim, fun k _ h => h, Kd.R_mono (Kd.R_bound h9) (fun k hk => ⟨hk.1, hk.2.2.1⟩), Kd.R_nil _ _ _ _ _⟩, hJ.out.2.1, hro, Nat.le_refl _, fun q hq => zip_f0 t dst src hX.out.2.2.2.2.2.1 q (by rw [← hfull] at hq; exact (List.mem_filter.1 hq).1), by omega, by have : mu pd ≤ 2 * pd.length + 1 := by { unfold mu; split <;> omega }; simp; omega⟩
      have hI' := Aside0.mk hI
      have hS := Aside0.mk hres
      rw [hpd]
      clear hI hres hro hfull hpd hnd hie hJ hpl hE hR
      go_wp2
      clear hlt hi
      go_loopg [7, 9] (mu pd) (fun n vl vo wi => ∃ (pd' o : List S50) (Al' : Option Addr) (cl' : Nat) (Ao : Option Addr) (co : Nat), vl = .slice Al' pd'.length cl' ∧ vo = .slice Ao o.length co ∧ Aside0 (RI w wi t (.slice Al' pd'.length cl') (.slice Ao o.length co) pd' o n ro))
      case atStart => exact ⟨pd, [], Al, cl, none, 0, rfl, rfl, hI'⟩
      case round =>
        obtain ⟨pd', o, Al', cl', Ao, co, rfl, rfl, hT⟩ := hrel
        clear hI'
        by_cases hpos : 0 < pd'.length
        · have hposi : (0 : Int) < pd'.length := by omega
          have hmu := hT.out.mu
          have hmp := mu_pos pd' hpos
          have hplen := hT.out.len
          have holen := hT.out.olen
          obtain ⟨m, rfl⟩ : ∃ m, gk = m + 1 := ⟨gk - 1, by omega⟩
          cases hfr : fr pd' with
          | some i0 =>
            have hfi : frI pd' = i0 := by unfold frI; rw [hfr]
            have hi0 : i0 < pd'.length := (List.findIdx?_eq_some_iff_getElem.1 hfr).choose
            have hi0i : (i0 : Int) < pd'.length := by omega
            have hF := Aside0.mk (And.intro hfi hfr)
            clear hfi hfr
            obtain ⟨P, O, hP, hO, hd, r1, r2⟩ := hT.out.ex
            obtain ⟨hz9, hlc, hC1⟩ := Kd.R_reads' r1
            clear hz9
            obtain ⟨g, cap9, ev, _⟩ := Kd.R_form r1 (by rw [List.length_map]; exact hpos)
            injection ev with ev1 ev2 ev3
            subst ev1
            clear ev2 ev3
            obtain ⟨ad, eA, z0, z1⟩ := at45 hC1 i0 hi0
            injection eA with eA
            subst eA
            rw [add0] at z0 z1
            obtain ⟨x, hx⟩ : ∃ x, x = pd'[i0] := ⟨_, rfl⟩
            rw [← hx] at z0 z1
            have hQ := Aside0.mk (And.intro hP (And.intro hO (And.intro hd (And.intro r1 (And.intro r2 (And.intro hC1 hx))))))
            have hlc' : pd'.length ≤ cl' := hlc
            clear hP hO hd r1 r2 hC1 hx hlc
            go_wp2_with fail
            refine (free_len (some ⟨g, 0, none⟩) cl' pd' _ _ hQ.out.2.2.2.2.2.1 hlc' (by omega) hF.out.1).mono ?_
            rintro e wf ⟨rfl, qf, rfl⟩
            go_wp2_with fail
            obtain ⟨W, hW⟩ : ∃ W, wr.drewN qf = W := ⟨_, rfl⟩
            have hKW : Kp (fun _ => False) wr W := by rw [← hW]; exact (Kp.refl _ wr).drewN _
            have z0W : W.cell? ⟨g, i0 * 2, none⟩ = some (.int .i64 x.f0) := by rw [← hW]; exact z0
            have z1W : W.cell? ⟨g, i0 * 2 + 1, none⟩ = some (.int .i64 x.f1) := by rw [← hW]; exact z1
            have hgW : g < W.heap.size := World.block_lt_of_cell? W _ z0W
            have z0A : (W.alloc (.cells #[.int .i64 x.f1] 3)).cell? ⟨g, i0 * 2, none⟩ = some (.int .i64 x.f0) := by
              have h1 := Below.heap_alloc W (.cells #[.int .i64 x.f1] 3) g hgW
              simp only [World.cell?, h1] at z0W ⊢
              exact z0W
            have hKW' := Aside0.mk hKW
            rw [hW]
            clear hW hKW z0 z1
            go_region_law (first
              | ((rw [show ((W.alloc (.cells #[.int .i64 x.f1] 3)).alloc (.cells #[.int .i64 4, .int .i64 0, .int .i64 x.f0, .slice (some ⟨W.heap.size, 0, none⟩) 1 1, .int .i64 0, .int .i64 0, .int .i64 0, .bool false] 28)).drew = (W.drew.alloc (.cells #[.int .i64 x.f1] 3)).alloc (.cells #[.int .i64 4, .int .i64 0, .int .i64 x.f0, .slice (some ⟨W.heap.size, 0, none⟩) 1 1, .int .i64 0, .int .i64 0, .int .i64 0, .bool false] 28) from rfl]; refine Kd.R_append_step k28 (w0 := W) 0 (by rfl) (.tmp 69) (.tmp 82) 25 28 (.agg #[.int .i64 0, .int .i64 0, .int .i64 0, .slice none 0 0, .int .i64 0, .int .i64 0, .int .i64 0, .bool false]) 80 (by rfl) Try.underlying25 info28 rfl (by decide) (by decide) (.slice Ao o.length co) (o.map (cp 0)) (cp 0 x) (row28 x.f0 (some ⟨W.heap.size, 0, none⟩) 1) (fun k => O k ∨ W.heap.size ≤ k) (fun k => k = W.heap.size) (by rfl) ?_ ?_ ?_ ?_ ?_ ?_ (Nat.zero_le _) ?_ ?_)
                 · show Value.slice (some ⟨W.heap.size + 1, 0, none⟩) 1 1 = _; simp
                 · exact k28_mkM _ _ _ (cp 0 x) (own_one W.drew x.f1)
                 · intro k hk; exact ⟨.inr (by omega), fun e => by have h1 := hQ.out.2.2.2.2.1.1 k e.symm; have h2 := (hQ.out.2.1 k h1).2; have := hKW'.out.size; omega⟩
                 · intro k hk; simp at hk; exact .inr (by omega)
                 · exact Kd.R_alloc (Kd.R_drewN (Kd.R_step (Kd.R_mono hQ.out.2.2.2.2.1 (fun k hk => .inl hk)) (fun k hk hlt => hKW'.out.block hlt (fun h => h))) _) _
                 · exact (((Kp.refl (fun _ => False) W).drewN _).alloc _).belowB (fun _ h => h.elim) (Nat.zero_le _)
                 · rw [List.length_map]; omega
                 intro v1 wa hRA hBA hgA hatA))
            all_goals
              have hM := RM.of (o' := o ++ [x]) (vo := .slice Ao o.length co) hQ.out.1 hQ.out.2.1 hQ.out.2.2.1 hQ.out.2.2.2.1 hKW'.out (((Kp.refl (fun _ => False) W).drewN 1).alloc _) hgA (fun k hk => hQ.out.2.2.2.2.1.1 k hk) (by rw [List.map_append]; exact hRA) hT.out.below
              obtain ⟨A1, cA, hv, _, _⟩ := Kd.R_reads hRA
              rw [show (o.map (cp 0) ++ [cp 0 x]).length = (o ++ [x]).length by simp] at hv
              subst hv
              have hM' := Aside0.mk hM
              clear hM hRA hBA hgA hatA hKW' z0W z1W z0A hgW
              go_wp2_with fail
              obtain ⟨P2, O2, hP2, hO2, hd2, r12, r22⟩ := hM'.out.ex
              have hC2 := (Kd.R_reads' r12).2.2
              have hlm : (pd'.map t45).length = pd'.length := List.length_map _
              have hCt := Kd.C_take hC2 (m := i0) (by omega)
              have hCd := Kd.C_drop (c := cl') hC2 (m := i0 + 1) (by omega) (by omega)
              rw [show ((pd'.map t45).take i0).length = i0 by rw [List.length_take]; omega] at hCt
              rw [show ((pd'.map t45).drop (i0 + 1)).length = pd'.length - (i0 + 1) by rw [List.length_drop]; omega] at hCd
              have hA : (if cl' = i0 + 1 then some (⟨g, 0, none⟩ : Addr) else some ⟨g, (i0 + 1) * 2, none⟩) = if cl' = i0 + 1 then some ⟨g, 0, none⟩ else (some (⟨g, 0, none⟩ : Addr)).map (·.add ((i0 + 1) * k45.sz)) := by
                by_cases e : cl' = i0 + 1
                · rw [if_pos e, if_pos e]
                · rw [if_neg e, if_neg e]; simp [add0, show k45.sz = 2 from rfl]
              obtain ⟨A9, hif⟩ : ∃ A9, (if cl' = i0 + 1 then some (⟨g, 0, none⟩ : Addr) else some ⟨g, (i0 + 1) * 2, none⟩) = A9 := ⟨_, rfl⟩
              rw [← hA, hif] at hCd
              have hV := Aside0.mk (And.intro hP2 (And.intro hO2 (And.intro hd2 (And.intro r12 (And.intro r22 (And.intro hCt hCd))))))
              have hk1 : i0 ≤ cl' := by omega
              have hk2 : i0 + 1 ≤ pd'.length := by omega
              have hk3 : (i0 : Int) + 1 ≤ pd'.length := by omega
              have hk4 : (0 : Int) ≤ (i0 : Int) + 1 := by omega
              have hwr : IntKind.i64.wrap ((i0 : Int) + 1) = (i0 : Int) + 1 := by simp [IntKind.wrap, IntKind.signed, IntKind.bits]; omega
              clear hP2 hO2 hd2 r12 r22 hC2 hlm hCt hCd hA
              go_region_law (first
                | ((refine Kd.R_append_rows_step k45 (Rr := k45.K wa) (w0 := wa) 0 (by rfl) (.tmp 84) (.tmp 87) 43 45 (.agg #[.int .i64 0, .int .i64 0]) 16 (by rfl) Try.underlying43 info45 rfl (by decide) (by decide) (.slice (some ⟨wa.heap.size, 0, none⟩) 0 0) [] ((pd'.map t45).take i0) (some ⟨g, 0, none⟩) i0 cl' (fun k => wa.heap.size ≤ k) (fun _ => False) (by rfl) (by rfl) ?_ ?_ (fun x cs h => by rw [k45_open h]; exact k45_mkM _ _ _ x) (fun _ h => h.elim) ?_ ?_ (Nat.zero_le _) ?_ ?_)
                   · exact Kd.R_drew (own_empty45 wa _ (Nat.le_refl _))
                   · exact ReadsRow.imp_ hV.out.2.2.2.2.2.1 (by repeat (first | exact Below.refl _ _ | apply below_alloc | apply pw_below_drewN | apply below_drew1)) (fun _ _ h => h)
                   · intro k hk; simp at hk; omega
                   · exact ((Below.refl _ _).alloc (Nat.zero_le _) _).drew
                   · simp; omega
                   intro v2 wb hRB hBB hgB hatB
                   simp only [List.nil_append] at hRB
                   obtain ⟨A8, c8, hv8, _, _⟩ := Kd.R_reads hRB
                   rw [show ((pd'.map t45).take i0).length = i0 by rw [List.length_take, List.length_map]; omega] at hv8
                   subst hv8
                   have hkB : Kp (fun _ => False) wa wb := (((Kp.refl _ wa).alloc _).drew).grown hgB (fun k hk => .inr (by simp [Value.ownBlock] at hk; omega)))
                | ((refine Kd.R_append_rows_step k45 (Rr := k45.K wa) (w0 := wb) 0 (by rfl) (.tmp 88) (.tmp 92) 43 45 (.agg #[.int .i64 0, .int .i64 0]) 16 (by rfl) Try.underlying43 info45 rfl (by decide) (by decide) (.slice A8 i0 c8) ((pd'.map t45).take i0) ((pd'.map t45).drop (i0 + 1)) A9 (pd'.length - (i0 + 1)) (cl' - (i0 + 1)) (fun k => wa.heap.size ≤ k) (fun _ => False) (by rfl) (by rfl) ?_ ?_ (fun x cs h => by rw [k45_open h]; exact k45_mkM _ _ _ x) (fun _ h => h.elim) ?_ ?_ (Nat.zero_le _) ?_ ?_)
                   · first | exact hRB | exact Kd.R_drewN hRB _
                   · exact ReadsRow.imp_ hV.out.2.2.2.2.2.2 (by repeat (first | exact hkB.none_below | apply below_alloc | apply pw_below_drewN | apply below_drew1)) (fun _ _ h => h)
                   · intro k hk; have := hkB.size; first | omega | (simp at hk; omega)
                   · first | exact Below.refl _ _ | exact ((Kp.refl (fun _ => False) wb).drewN _).belowB (fun _ h => h.elim) (Nat.zero_le _)
                   · simp; omega
                   intro v3 wc hRC hBC hgC hatC))
            all_goals
              have hkC : Kp (fun _ => False) wa wc := hkB.grown hgC (fun k hk => .inr (hRB.1 k hk))
              obtain ⟨A7, c7, hv7, _, _⟩ := Kd.R_reads hRC
              have hls : (pd'.map t45).take i0 ++ (pd'.map t45).drop (i0 + 1) = (pd'.eraseIdx i0).map t45 := by rw [List.eraseIdx_eq_take_drop_succ, List.map_append, List.map_take, List.map_drop]
              rw [hls] at hRC hv7
              rw [List.length_map] at hv7
              subst hv7
              have sC := hkC.size
              have sM := hM'.out.below.size
              have hO : RI w wc t (.slice A7 (pd'.eraseIdx i0).length c7) (.slice A1 (o ++ [x]).length cA) (pd'.eraseIdx i0) (o ++ [x]) m ro :=
                ⟨⟨fun k => wa.heap.size ≤ k ∧ k < wc.heap.size, O2, fun k hk => ⟨by have := hk.1; omega, hk.2⟩, fun k hk => ⟨(hV.out.2.1 k hk).1, by have := (hV.out.2.1 k hk).2; omega⟩, fun k h1 h2 => by have := h1.1; have := (hV.out.2.1 k h2).2; omega, Kd.R_mono (Kd.R_bound hRC) (fun k hk => ⟨hk.1, hk.2.2.1⟩), Kd.R_step hV.out.2.2.2.2.1 (fun k hk hlt => hkC.block hlt (fun h => h))⟩,
                  hM'.out.below.trans (hkC.none_below.mono sM), by have h7 := hT.out.eq; rw [fin_some t m pd' o i0 hF.out.2 hi0, ← hQ.out.2.2.2.2.2.2] at h7; exact h7, by have := mu_some pd' i0 hF.out.2 hi0; omega, fun q hq => hT.out.ht q (List.mem_of_mem_eraseIdx hq), by rw [List.length_eraseIdx, if_pos hi0]; omega, by simp; omega⟩
              have hO' := Aside0.mk hO
              clear hO hkC hkB hRC hRB hgC hgB hatC hatB hBC hBB hls hM' hV sC sM
              go_wp2
              go_roundg m
              case rel => exact ⟨pd'.eraseIdx i0, o ++ [x], A7, c7, A1, cA, rfl, by simp, hO'⟩
              case measure => omega
          | none =>
            have hfi : frI pd' = -1 := by unfold frI; rw [hfr]
            have hF := Aside0.mk (And.intro hfi hfr)
            clear hfi hfr
            obtain ⟨P, O, hP, hO, hd, r1, r2⟩ := hT.out.ex
            obtain ⟨hz9, hlc, hC1⟩ := Kd.R_reads' r1
            clear hz9
            obtain ⟨g, cap9, ev, _⟩ := Kd.R_form r1 (by rw [List.length_map]; exact hpos)
            injection ev with ev1 ev2 ev3
            subst ev1
            clear ev2 ev3
            obtain ⟨ad, eA, z0, z1⟩ := at45 hC1 0 hpos
            injection eA with eA
            subst eA
            rw [add0, Nat.zero_mul] at z0
            clear z1
            obtain ⟨a, ha⟩ : ∃ a, a = pd'[0].f0 := ⟨_, rfl⟩
            rw [← ha] at z0
            have hQ := Aside0.mk (And.intro hP (And.intro hO (And.intro hd (And.intro r1 (And.intro r2 (And.intro hC1 ha))))))
            have hlc' : pd'.length ≤ cl' := hlc
            clear hP hO hd r1 r2 hC1 ha hlc
            go_wp2_with fail
            refine (free_len (some ⟨g, 0, none⟩) cl' pd' _ _ hQ.out.2.2.2.2.2.1 hlc' (by omega) hF.out.1).mono ?_
            rintro e wf ⟨rfl, qf, rfl⟩
            go_wp2_with (at_builtin; refine Kd.R_append k28 (w0 := wr) 0 (by rfl) (.tmp 98) (.tmp 103) 25 28 (.agg #[.int .i64 0, .int .i64 0, .int .i64 0, .slice none 0 0, .int .i64 0, .int .i64 0, .int .i64 0, .bool false]) 80 (by rfl) Try.underlying25 info28 rfl (by decide) (by decide) (.slice Ao o.length co) (o.map (cp 0)) (cp 0 ⟨t, a⟩) (row28 t (some ⟨wr.heap.size, 0, none⟩) 1) (fun k => O k ∨ wr.heap.size ≤ k) (fun k => k = wr.heap.size) (by rfl) (by show Value.slice (some ⟨wr.heap.size + 1, 0, none⟩) 1 1 = _; simp) (k28_mkM _ _ _ (cp 0 ⟨t, a⟩) (own_one (wr.drewN qf) a)) (fun k hk => ⟨.inr (by omega), fun e => by have h1 := hQ.out.2.2.2.2.1.1 k e.symm; have h2 := (hQ.out.2.1 k h1).2; omega⟩) (fun k hk => by simp at hk; exact .inr (by omega)) (Kd.R_alloc (Kd.R_drewN (Kd.R_mono hQ.out.2.2.2.2.1 (fun k hk => .inl hk)) _) _) ((((Kp.refl (fun _ => False) wr).drewN _).alloc _).belowB (fun _ h => h.elim) (Nat.zero_le _)) (Nat.zero_le _) (by rw [List.length_map]; omega) ?_; intro v1 wa hRA hBA hgA hatA; have hM := RM.of (o' := o ++ [⟨t, a⟩]) (vo := .slice Ao o.length co) hQ.out.1 hQ.out.2.1 hQ.out.2.2.1 hQ.out.2.2.2.1 (Kp.refl _ wr) (((Kp.refl (fun _ => False) wr).drewN qf).alloc _) hgA (fun k hk => hQ.out.2.2.2.2.1.1 k hk) (by rw [List.map_append]; exact hRA) hT.out.below; obtain ⟨A1, cA, hv, _, _⟩ := Kd.R_reads hRA; rw [show (o.map (cp 0) ++ [cp 0 ⟨t, a⟩]).length = (o ++ [(⟨t, a⟩ : S50)]).length by simp] at hv; subst hv; have hM' := Aside0.mk hM; clear hM hRA hBA hgA hatA)
            go_loopg [107] pd'.length (fun q v wi => ∃ j : Nat, j + q = pd'.length ∧ v = .int .i64 j ∧ Aside0 (RM w wi (.slice (some ⟨g, 0, none⟩) pd'.length cl') (.slice A1 (o ++ [(⟨t, a⟩ : S50)]).length cA) (reps t a pd' j) (o ++ [(⟨t, a⟩ : S50)])))
            case atStart => exact ⟨0, by omega, rfl, hM'⟩
            case round =>
              obtain ⟨j, hj, rfl, hU⟩ := hrel
              clear hM'
              by_cases hlt2 : j < pd'.length
              · have hlti : (j : Int) < pd'.length := by omega
                obtain ⟨gk1, rfl⟩ : ∃ q, gk = q + 1 := ⟨gk - 1, by omega⟩
                obtain ⟨y1, f1⟩ := hU.out.at_ j (by rw [reps_len]; exact hlt2)
                rw [reps_get t a pd' j hlt2] at y1
                by_cases he : pd'[j].f1 = a
                · have he' : (pd'[j].f1 == a) = true := by simpa using he
                  have hU2 := hU.out.put j (by rw [reps_len]; exact hlt2) t
                  rw [reps_get t a pd' j hlt2, reps_hit t a pd' j hlt2 he] at hU2
                  have hU3 := Aside0.mk hU2
                  obtain ⟨z, hz⟩ : ∃ z, pd'[j].f1 = z := ⟨_, rfl⟩
                  rw [hz] at y1 he'
                  clear hU2 he hz
                  go_wp2
                  go_roundg gk1
                  case rel => exact ⟨j + 1, by omega, by go_num, hU3⟩
                  case measure => omega
                · have he' : (pd'[j].f1 == a) = false := by simpa using he
                  have hU2 := hU.out
                  rw [reps_miss t a pd' j hlt2 he] at hU2
                  have hU3 := Aside0.mk hU2
                  obtain ⟨z, hz⟩ : ∃ z, pd'[j].f1 = z := ⟨_, rfl⟩
                  rw [hz] at y1 he'
                  clear hU2 he hz
                  go_wp2
                  go_roundg gk1
                  case rel => exact ⟨j + 1, by omega, by go_num, hU3⟩
                  case measure => omega
              · have hU2 := hU.out
                have er : reps t a pd' j = pd'.map (rep t a) := by unfold reps; rw [List.take_of_length_le (by omega), List.drop_eq_nil_of_le (by omega), List.append_nil]
                rw [er] at hU2
                have hO : RI w wr t (.slice (some ⟨g, 0, none⟩) (pd'.map (rep t a)).length cl') (.slice A1 (o ++ [(⟨t, a⟩ : S50)]).length cA) (pd'.map (rep t a)) (o ++ [(⟨t, a⟩ : S50)]) m ro :=
                  ⟨by rw [List.length_map]; exact hU2.ex, hU2.below, by have h7 := hT.out.eq; rw [fin_none t m pd' o hF.out.2 hpos, ← hQ.out.2.2.2.2.2.2] at h7; exact h7,
                    by have := mu_none t pd' hF.out.2 hpos hT.out.ht; rw [← hQ.out.2.2.2.2.2.2] at this; omega, fun q hq => by { obtain ⟨q0, h8, rfl⟩ := List.mem_map.1 hq; rw [rep_f0]; exact hT.out.ht q0 h8 }, by rw [List.length_map]; exact hplen, by simp; omega⟩
                have hO' := Aside0.mk hO
                clear hO hU2 er
                go_wp2
                go_roundg m
                case rel => exact ⟨pd'.map (rep t a), o ++ [(⟨t, a⟩ : S50)], some ⟨g, 0, none⟩, cl', A1, cA, by simp, by simp, hO'⟩
                case measure => omega
        · have hnil : pd' = [] := List.eq_nil_of_length_eq_zero (by omega)
          subst hnil
          obtain ⟨P, O, _, _, _, _, r2⟩ := hT.out.ex
          have h7 := hT.out.eq
          rw [fin_nil] at h7
          subst h7
          have hC9 := (Kd.R_reads' r2).2.2
          have hZ := Aside0.mk (And.intro hC9 hT.out.below)
          have hrs := hS.out
          subst hrs
          clear hT r2 hC9 hpos hX
          go_wp2
          go_ret
          refine ⟨Ao, ⟨co, ?_⟩, ?_, hZ.out.2⟩
          · simp
          · simpa using hZ.out.1
end Go.Proofs.Ytlmendmncfibfaa
