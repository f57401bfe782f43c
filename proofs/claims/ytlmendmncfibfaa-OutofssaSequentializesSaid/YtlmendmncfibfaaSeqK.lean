/- The reference's Sequentialize: the early ends, the pairs. -/
import Derived.Test.YtlmendmncfibfaaSeqJ
set_option linter.unusedVariables false
set_option linter.unusedSimpArgs false
namespace Go.Proofs.Ytlmendmncfibfaa
open Go.RowKit Go.Proofs.YtlmendmncfibfaaW.PrintWords Go.Proofs.Ytlmendmncfibfaa.POutofssaSequentializes Mem

theorem count_is (A : Option Addr) (c : Nat) (l : List Int) (v : Int) (n : Nat) (w : World) (hC : Kd.C (Kd.int .i64) w A l.length l) (hc : l.length ≤ c) (hm : l.length ≤ 1000000) (hn : l.count v = n) :
    Calls Try.prog 16 #[.slice A l.length c, .int .i64 v] w fun e w' => e = .returned (.int .i64 (n : Int)) ∧ ∃ q, w' = w.drewN q := by
  subst hn
  exact count_any A c l v w hC hc hm
def pre (dst src : List Int) (i : Nat) : List S50 := ((List.zipWith S50.mk dst src).take i).filter np
theorem pre_hit (dst src : List Int) (i : Nat) (h : i < dst.length) (h2 : i < src.length) (he : dst[i] ≠ src[i]) : pre dst src (i + 1) = pre dst src i ++ [⟨dst[i], src[i]⟩] := by
  unfold pre
  have hz : i < (List.zipWith S50.mk dst src).length := by rw [List.length_zipWith]; omega
  rw [List.take_succ_eq_append_getElem hz, List.filter_append, List.getElem_zipWith]
  have : np ⟨dst[i], src[i]⟩ = true := by simpa [np] using fun e : src[i] = dst[i] => he e.symm
  simp [this]
theorem pre_miss (dst src : List Int) (i : Nat) (h : i < dst.length) (h2 : i < src.length) (he : dst[i] = src[i]) : pre dst src (i + 1) = pre dst src i := by
  unfold pre
  have hz : i < (List.zipWith S50.mk dst src).length := by rw [List.length_zipWith]; omega
  rw [List.take_succ_eq_append_getElem hz, List.filter_append, List.getElem_zipWith]
  have : np ⟨dst[i], src[i]⟩ = false := by simpa [np] using he.symm
  simp [this]
theorem pre_len (dst src : List Int) (i : Nat) : (pre dst src i).length ≤ dst.length := by
  unfold pre
  have h1 : (((List.zipWith S50.mk dst src).take i).filter np).length ≤ ((List.zipWith S50.mk dst src).take i).length := List.length_filter_le _ _
  have h2 : ((List.zipWith S50.mk dst src).take i).length ≤ (List.zipWith S50.mk dst src).length := by rw [List.length_take]; omega
  have h3 : (List.zipWith S50.mk dst src).length ≤ dst.length := by rw [List.length_zipWith]; omega
  omega
theorem nodup_of_counts (l : List Int) (h : ∀ j (hj : j < l.length), l.count l[j] ≤ 1) : l.Nodup := by
  rw [List.nodup_iff_count]
  intro a
  by_cases ha : a ∈ l
  · obtain ⟨j, hj, rfl⟩ := List.mem_iff_getElem.1 ha
    exact h j hj
  · rw [List.count_eq_zero_of_not_mem ha]; omega

/-- The pairs and the instructions of the reference. -/
structure RI (w wr : World) (t : Int) (vl vo : Value) (pd o : List S50) (n : Nat) (res : List S50) : Prop where
  ex : ∃ P O : Nat → Prop, (∀ k, P k → w.heap.size ≤ k ∧ k < wr.heap.size) ∧ (∀ k, O k → w.heap.size ≤ k ∧ k < wr.heap.size) ∧ (∀ k, P k → ¬ O k) ∧ Kd.R k45 45 wr 0 P vl (pd.map t45) ∧ Kd.R k28 28 wr 0 O vo (o.map (cp 0))
  below : Below w.heap.size w wr
  eq : fin t n pd o = res
  mu : mu pd ≤ n
  ht : ∀ q ∈ pd, q.f0 ≠ t
  len : pd.length ≤ 1000
  olen : o.length + n ≤ 10000
theorem RI.step {w wr W : World} {t : Int} {vl vo : Value} {pd o res : List S50} {n : Nat} (h : RI w wr t vl vo pd o n res) (hb : Below wr.heap.size wr W) : RI w W t vl vo pd o n res := by
  obtain ⟨P, O, hP, hO, d, r1, r2⟩ := h.ex
  have hs := hb.size
  exact ⟨⟨P, O, fun k hk => ⟨(hP k hk).1, by have := (hP k hk).2; omega⟩, fun k hk => ⟨(hO k hk).1, by have := (hO k hk).2; omega⟩, d, Kd.R_step r1 (fun k _ hk => hb.block k hk), Kd.R_step r2 (fun k _ hk => hb.block k hk)⟩, h.below.trans (hb.mono h.below.size), h.eq, h.mu, h.ht, h.len, h.olen⟩
theorem at45 {w : World} {A : Option Addr} {xs : List S50} (h : Kd.C k45 w A (xs.map t45).length (xs.map t45)) (k : Nat) (hk : k < xs.length) : ∃ ad, A = some ad ∧ w.cell? (ad.add (k * 2)) = some (.int .i64 (xs[k]).f0) ∧ w.cell? ⟨(ad.add (k * 2)).block, (ad.add (k * 2)).off + 1, none⟩ = some (.int .i64 (xs[k]).f1) := by
  obtain ⟨ad, e, h1, h2⟩ := at_T45 h (k : Int) (by omega) (by rw [List.length_map]; omega)
  rw [rd45 xs k hk, Int.toNat_natCast] at h1 h2
  exact ⟨ad, e, h1, h2⟩

set_option maxRecDepth 100000 in
set_option maxHeartbeats 1000000 in
theorem rseq_early (A : Option Addr) (c : Nat) (dst : List Int) (B : Option Addr) (c2 : Nat) (src : List Int) (t : Int) (w : World) (hA : Kd.C (Kd.int .i64) w A dst.length dst) (hc : dst.length ≤ c) (hB : Kd.C (Kd.int .i64) w B src.length src) (hc2 : src.length ≤ c2) (hm : dst.length ≤ 1000) (hm2 : src.length ≤ 1000)
    (he : dst.length ≠ src.length ∨ t ∈ dst ∨ t ∈ src) :
    Calls Try.prog 8 #[.slice A dst.length c, .slice B src.length c2, .int .i64 t] w fun e w' => ∃ A' c', e = .returned (.slice A' (seqR dst src t).length c') ∧ (seqR dst src t).length ≤ c' ∧ Kd.C k28 w' A' (seqR dst src t).length (seqR dst src t) ∧ Below w.heap.size w w' := by
  have hr : seqR dst src t = [] := by
    unfold seqR good
    rcases he with h | h | h <;> simp [h]
  rw [hr]
  have hX := Aside0.mk (And.intro hA (And.intro hc (And.intro hB hc2)))
  clear hA hB hc hc2 hr
  by_cases h1 : dst.length = src.length
  · have h1'' : ((dst.length : Int) != src.length) = false := by simp [h1]
    have h1' : ((dst.length : Int) == src.length) = true := by simp [h1]
    have hpos : 0 < dst.count t ∨ 0 < src.count t := by
      rcases he with h | h | h
      · exact absurd h1 h
      · exact .inl (List.count_pos_iff.2 h)
      · exact .inr (List.count_pos_iff.2 h)
    have k1 := List.count_le_length (a := t) (l := dst)
    have k2 := List.count_le_length (a := t) (l := src)
    obtain ⟨n1, e1⟩ : ∃ n, dst.count t = n := ⟨_, rfl⟩
    obtain ⟨n2, e2⟩ : ∃ n, src.count t = n := ⟨_, rfl⟩
    rw [e1, e2] at hpos
    rw [e1] at k1
    rw [e2] at k2
    have g1 : (0 : Int) < (n1 : Int) + (n2 : Int) := by omega
    have g2 : (n1 : Int) ≤ 1000 := by omega
    have g3 : (n2 : Int) ≤ 1000 := by omega
    have hE := Aside0.mk (And.intro e1 e2)
    clear h1 he e1 e2 hpos k1 k2
    go_enter Try.func8, Try.ntmps8
    go_wp2_with (first
      | (go_at_call 16; with_reducible refine (count_is A c dst t n1 _ hX.out.1 hX.out.2.1 (by omega) hE.out.1).mono ?_; rintro e w1 ⟨rfl, q1, rfl⟩)
      | (go_at_call 16; with_reducible refine (count_is B c2 src t n2 _ (Kd.C_drewN hX.out.2.2.1 _) hX.out.2.2.2 (by omega) hE.out.2).mono ?_; rintro e w2 ⟨rfl, q2, rfl⟩))
    go_ret
    exact ⟨_, _, rfl, Nat.le_refl _, C_none28 _, by repeat (first | exact Below.refl _ _ | apply pw_below_drewN)⟩
  · have h1'' : ((dst.length : Int) != src.length) = true := by simp; omega
    have h1' : ((dst.length : Int) == src.length) = false := by simp; omega
    clear h1 he
    go_enter Try.func8, Try.ntmps8
    go_wp2
    go_ret
    exact ⟨_, _, rfl, Nat.le_refl _, C_none28 _, Below.refl _ _⟩
end Go.Proofs.Ytlmendmncfibfaa
