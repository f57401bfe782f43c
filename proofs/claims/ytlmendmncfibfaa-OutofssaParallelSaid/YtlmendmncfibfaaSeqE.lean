/- Package slices at pairs: DeleteFunc with order's first closure. -/
import Derived.Test.YtlmendmncfibfaaSeqD
set_option linter.unusedVariables false
set_option linter.unusedSimpArgs false
namespace Go.Proofs.Ytlmendmncfibfaa
open Go.RowKit Go.Proofs.YtlmendmncfibfaaW.PrintWords Go.Proofs.Ytlmendmncfibfaa.POutofssaSequentializes Mem

theorem add0 (g k : Nat) : (⟨g, 0, none⟩ : Addr).add k = ⟨g, k, none⟩ := by
  unfold Addr.add
  by_cases h : k = 0
  · subst h; simp
  · simp [h]
/-- A pair is written over. -/
theorem R_set50 {w : World} {ok : Nat → Prop} {g n cap : Nat} {xs : List S50} (h : Kd.R k50 50 w 0 ok (.slice (some ⟨g, 0, none⟩) n cap) xs) (i : Nat) (hi : i < xs.length) (x : S50) :
    Kd.R k50 50 (w.setCells g (i * 2) [.int .i64 x.f0, .int .i64 x.f1]) 0 ok (.slice (some ⟨g, 0, none⟩) n cap) (xs.set i x) ∧ Kp ok w (w.setCells g (i * 2) [.int .i64 x.f0, .int .i64 x.f1]) := by
  obtain ⟨hn, _, hC⟩ := Kd.R_reads' h
  obtain ⟨ad, e, h1, h2⟩ := at50 hC i hi
  injection e with e
  subst e
  have := Kd.R_seg h (i : Int) (by omega) (by omega) (c := [.int .i64 (xs[i]).f0, .int .i64 (xs[i]).f1]) (seg := [.int .i64 x.f0, .int .i64 x.f1]) (j := 0) (x' := x) (okp := fun _ => False) rfl (fun j u hj => by
    have h1' : w.cell? ⟨g, i * 2, none⟩ = some (.int .i64 (xs[i]).f0) := by rw [add0] at h1; exact h1
    have h2' : w.cell? ⟨g, i * 2 + 1, none⟩ = some (.int .i64 (xs[i]).f1) := by rw [add0] at h2; exact h2
    rw [Int.toNat_natCast, show k50.sz = 2 from rfl]
    rcases j with _ | _ | j
    · simp at hj; rw [← hj]; exact h1'
    · simp at hj; rw [← hj]; exact h2'
    · simp at hj) (by show 0 + 2 ≤ 2; omega) (k50_mkM _ _ _ x) (fun _ h => h.elim)
  rw [Int.toNat_natCast, show k50.sz = 2 from rfl, Nat.add_zero] at this
  exact ⟨this.1, (Kp.refl ok w).grown this.2 (fun j hj => .inl (h.1 j (by simpa [Value.ownBlock] using hj)))⟩
/-- A pair of one's own is read. -/
theorem R_at50 {w : World} {ok : Nat → Prop} {g n cap : Nat} {xs : List S50} (h : Kd.R k50 50 w 0 ok (.slice (some ⟨g, 0, none⟩) n cap) xs) (i : Nat) (hi : i < xs.length) :
    w.cell? ⟨g, i * 2, none⟩ = some (.int .i64 (xs[i]).f0) ∧ w.cell? ⟨g, i * 2 + 1, none⟩ = some (.int .i64 (xs[i]).f1) ∧ w.frozen? ⟨g, i * 2, none⟩ = false ∧ w.frozen? ⟨g, i * 2 + 1, none⟩ = false := by
  obtain ⟨hn, hc, hC⟩ := Kd.R_reads' h
  obtain ⟨ad, e, h1, h2⟩ := at50 hC i hi
  injection e with e
  subst e
  rw [add0] at h1 h2
  exact ⟨h1, h2, (R_cellsome h _ (by omega)).2, (R_cellsome h _ (by omega)).2⟩

def np (q : S50) : Bool := !(q.f1 == q.f0)
structure DI (w wr : World) (ok : Nat → Prop) (g n cap : Nat) (xs : List S50) (i j : Nat) : Prop where
  ex : ∃ ys : List S50, ys.length = xs.length ∧ Kd.R k50 50 wr 0 ok (.slice (some ⟨g, 0, none⟩) n cap) ys ∧ Kp ok w wr ∧ ys.take i = (xs.take j).filter np ∧ ys.drop j = xs.drop j
  lt : i < j
  le : j ≤ n
theorem DI.at_ {w wr : World} {ok : Nat → Prop} {g n cap i j : Nat} {xs : List S50} (h : DI w wr ok g n cap xs i j) (hj : j < xs.length) :
    wr.cell? ⟨g, j * 2, none⟩ = some (.int .i64 (xs[j]).f0) ∧ wr.cell? ⟨g, j * 2 + 1, none⟩ = some (.int .i64 (xs[j]).f1) := by
  obtain ⟨ys, h1, h2, h3, h4, h5⟩ := h.ex
  have h6 := R_at50 h2 j (by omega)
  have e : ys[j]'(by omega) = xs[j] := by
    have e1 : (ys.drop j)[0]? = (xs.drop j)[0]? := by rw [h5]
    rw [List.getElem?_drop, List.getElem?_drop, Nat.add_zero, List.getElem?_eq_getElem (by omega), List.getElem?_eq_getElem hj] at e1
    exact Option.some.inj e1
  rw [e] at h6
  exact ⟨h6.1, h6.2.1⟩
theorem DI.room {w wr W : World} {ok : Nat → Prop} {g n cap i j : Nat} {xs : List S50} (h : DI w wr ok g n cap xs i j) (hb : Below wr.heap.size wr W) (hn : n = xs.length) :
    (∃ u, W.cell? ⟨g, i * 2, none⟩ = some u) ∧ (∃ u, W.cell? ⟨g, i * 2 + 1, none⟩ = some u) ∧ W.frozen? ⟨g, i * 2, none⟩ = false ∧ W.frozen? ⟨g, i * 2 + 1, none⟩ = false := by
  obtain ⟨ys, h1, h2, h3, h4, h5⟩ := h.ex
  have := h.lt
  have := h.le
  have h6 := R_at50 (Kd.R_step h2 (fun k _ hk => hb.block k hk)) i (by omega)
  exact ⟨⟨_, h6.1⟩, ⟨_, h6.2.1⟩, h6.2.2.1, h6.2.2.2⟩
theorem DI.skip {w wr W : World} {ok : Nat → Prop} {g n cap i j : Nat} {xs : List S50} (h : DI w wr ok g n cap xs i j) (hb : Below wr.heap.size wr W) (hj : j < xs.length) (hjn : j < n) (hp : (xs[j]).f1 = (xs[j]).f0) : DI w W ok g n cap xs i (j + 1) := by
  obtain ⟨ys, h1, h2, h3, h4, h5⟩ := h.ex
  refine ⟨⟨ys, h1, Kd.R_step h2 (fun k _ hk => hb.block k hk), h3.then_ (Kp.of_below hb ok) (fun _ h => .inl h), ?_, ?_⟩, by have := h.lt; omega, by omega⟩
  · rw [h4, List.take_succ_eq_append_getElem hj, List.filter_append]
    simp [np, hp]
  · rw [← List.drop_drop, h5, List.drop_drop]
theorem DI.keep {w wr W : World} {ok : Nat → Prop} {g n cap i j : Nat} {xs : List S50} (h : DI w wr ok g n cap xs i j) (hb : Below wr.heap.size wr W) (hj : j < xs.length) (hjn : j < n) (hp : (xs[j]).f1 ≠ (xs[j]).f0) (hn : n = xs.length) :
    DI w (W.setCells g (i * 2) [.int .i64 (xs[j]).f0, .int .i64 (xs[j]).f1]) ok g n cap xs (i + 1) (j + 1) := by
  obtain ⟨ys, h1, h2, h3, h4, h5⟩ := h.ex
  have hlt := h.lt
  have h6 := R_set50 (Kd.R_step h2 (fun k _ hk => hb.block k hk)) i (by omega) xs[j]
  refine ⟨⟨ys.set i xs[j], by rw [List.length_set]; exact h1, h6.1, (h3.then_ (Kp.of_below hb ok) (fun _ h => .inl h)).then_ h6.2 (fun _ h => .inl h), ?_, ?_⟩, by omega, by omega⟩
  · have e1 : (ys.set i xs[j]).take (i + 1) = ys.take i ++ [xs[j]] := by
      rw [List.take_succ_eq_append_getElem (by rw [List.length_set]; omega), List.take_set_of_le (Nat.le_refl _), List.getElem_set_self]
    rw [e1, h4, List.take_succ_eq_append_getElem hj, List.filter_append]
    have : np xs[j] = true := by simpa [np] using hp
    simp [this]
  · rw [List.drop_set_of_lt (by omega), ← List.drop_drop, h5, List.drop_drop]

set_option maxRecDepth 100000 in
set_option maxHeartbeats 2000000 in
theorem deletefunc_any (v : Value) (ok : Nat → Prop) (xs : List S50) (w : World) (hR : Kd.R k50 50 w 0 ok v xs) (hm : xs.length ≤ 1000000) :
    Calls Try.prog 20 #[v, .func (.func 22) #[] #[]] w fun e w' => ∃ v', e = .returned v' ∧ Kd.R k50 50 w' 0 ok v' (xs.filter np) ∧ Kp ok w w' := by
  obtain ⟨A, cap, rfl, hle, hC⟩ := Kd.R_reads hR
  have hR' := Aside0.mk hR
  have hC' := Aside0.mk hC
  clear hR hC
  cases hf : xs.findIdx? (fun q => q.f1 == q.f0) with
  | none =>
    have hi : idxF (fun q => q.f1 == q.f0) xs = -1 := by unfold idxF; rw [hf]
    have h1 : xs.filter np = xs := by
      rw [List.filter_eq_self]
      intro x hx
      have := List.findIdx?_eq_none_iff.1 hf x hx
      unfold np; rw [this]; rfl
    rw [h1]
    clear hf h1
    go_enter Try.func20, Try.ntmps20
    go_wp2_with (go_at_call 26; refine (index_self A cap xs _ hC'.out (by omega)).mono ?_; rw [hi]; rintro e w1 ⟨rfl, hB⟩; have hB' := Aside0.mk hB; clear hB)
    go_ret
    exact ⟨_, rfl, Kd.R_step hR'.out (fun k _ hk => hB'.out.block k hk), Kp.of_below hB'.out ok⟩
  | some i0 =>
    obtain ⟨hi0, hp0, hq0⟩ := List.findIdx?_eq_some_iff_getElem.1 hf
    have hi : idxF (fun q => q.f1 == q.f0) xs = i0 := by unfold idxF; rw [hf]
    obtain ⟨g, cap', e1, _⟩ := Kd.R_form hR'.out (by omega)
    injection e1 with e1 e2 e3
    subst e1
    subst e3
    clear e2
    have hS : Aside0 (∀ W, Below w.heap.size w W → DI w W ok g xs.length cap xs i0 (i0 + 1)) := ⟨fun W hb => ⟨⟨xs, rfl, Kd.R_step hR'.out (fun k _ hk => hb.block k hk), Kp.of_below hb ok, by
      have h1 : (xs.take i0).filter np = xs.take i0 := by
        rw [List.filter_eq_self]
        intro x hx
        obtain ⟨j, hj, rfl⟩ := List.mem_take_iff_getElem.1 hx
        have := hq0 j (by omega)
        simpa [np] using this
      have h2 : np xs[i0] = false := by simpa [np] using hp0
      rw [List.take_succ_eq_append_getElem hi0, List.filter_append, h1]
      simp [h2], rfl⟩, by omega, by omega⟩⟩
    have hIdx := index_self (some ⟨g, 0, none⟩) cap xs w hC'.out (by omega)
    rw [hi] at hIdx
    obtain ⟨n, hn⟩ : ∃ n, xs.length = n := ⟨_, rfl⟩
    have hn' := Aside0.mk hn
    rw [hn] at hS hi0 hle hm hIdx ⊢
    have hIdx' := Aside0.mk hIdx
    have hi0' : (i0 : Int) < n := by omega
    have hneg : ((i0 : Int) == -1) = false := by rw [beq_eq_false_iff_ne]; omega
    clear hf hp0 hq0 hC' hIdx hn hi
    go_enter Try.func20, Try.ntmps20
    go_wp2_with fail
    refine hIdx'.out.mono ?_
    rintro e w1 ⟨rfl, hB⟩
    have hI := Aside0.mk (hS.out w1 hB)
    clear hB hS hIdx'
    go_wp2_with fail
    go_loopw [5, 6] (fun u5 u6 wr => ∃ i j : Nat, u5 = .int .i64 i ∧ u6 = .int .i64 j ∧ Aside0 (DI w wr ok g n cap xs i j)) (fun _ u6 _ => n - (intOf u6).toNat)
    case atStart => exact ⟨i0, i0 + 1, rfl, by go_num, hI⟩
    case round =>
      obtain ⟨i, j, rfl, rfl, hJ⟩ := hrel
      have hij := hJ.out.lt
      have hjn := hJ.out.le
      by_cases hlt : j < n
      · have hjx : j < xs.length := by rw [hn'.out]; exact hlt
        obtain ⟨q0, q1⟩ := hJ.out.at_ hjx
        obtain ⟨x, hx⟩ : ∃ x, x = xs[j] := ⟨_, rfl⟩
        rw [← hx] at q0 q1
        have hx' := Aside0.mk hx
        clear hx
        by_cases hp : x.f1 = x.f0
        · have hb : (x.f1 == x.f0) = true := by simpa using hp
          have hp' := Aside0.mk hp
          have hb' := Aside0.mk hb
          clear hp hb
          go_wp2_with (go_at_call 22; refine (order1_any x _).mono ?_; rw [hb'.out]; rintro e w2 ⟨rfl, hB⟩; have hB' := Aside0.mk ((below_alloc (Below.refl _ wr) (.cells #[.int .i64 x.f0, .int .i64 x.f1] 50)).trans (hB.mono (by simp))); clear hB)
          go_roundw
          case rel => exact ⟨i, j + 1, rfl, by go_num, ⟨hJ.out.skip hB'.out hjx hlt (by rw [← hx'.out]; exact hp'.out)⟩⟩
          case measure => simp [intOf]; omega
        · have hb : (x.f1 == x.f0) = false := by simpa using hp
          have hp' := Aside0.mk hp
          have hb' := Aside0.mk hb
          clear hp hb
          have hil : (i : Int) < n := by omega
          go_wp2_with (go_at_call 22; refine (order1_any x _).mono ?_; rw [hb'.out]; rintro e w2 ⟨rfl, hB⟩; have hq : w2.heap[wr.heap.size]? = some (.cells #[.int .i64 x.f0, .int .i64 x.f1] 50 (0, 0)) := (hB.block _ (by simp)).trans (heap_alloc_new wr _); have v0 : w2.cell? ⟨wr.heap.size, 0, none⟩ = some (.int .i64 x.f0) := cell_at hq rfl; have v1 : w2.cell? ⟨wr.heap.size, 1, none⟩ = some (.int .i64 x.f1) := cell_at hq rfl; have hB' := Aside0.mk ((below_alloc (Below.refl _ wr) (.cells #[.int .i64 x.f0, .int .i64 x.f1] 50)).trans (hB.mono (by simp))); clear hB hq; obtain ⟨⟨r0, m0⟩, ⟨r1, m1⟩, m2, m3⟩ := hJ.out.room hB'.out hn'.out.symm)
          go_roundw
          case rel =>
            have hK := hJ.out.keep hB'.out hjx hlt (by rw [← hx'.out]; exact hp'.out) hn'.out.symm
            rw [← hx'.out] at hK
            exact ⟨i + 1, j + 1, by go_num, by go_num, ⟨hK⟩⟩
          case measure => simp [intOf]; omega
      · have hjn2 : j = n := by omega
        subst hjn2
        obtain ⟨ys, h1, h2, h3, h4, h5⟩ := hJ.out.ex
        have hnx := hn'.out
        have hcl := run_clear50 wr 0 g (i * 2) (j - i) (cap - i) (by omega) (fun q hq => (R_cellsome h2 _ (by omega)).1) (fun q hq => (R_cellsome h2 _ (by omega)).2)
        have hP := R_past (m := i) (off := i * 2) (seg := List.replicate ((j - i) * 2) (.int .i64 0)) h2 (by omega) (Nat.le_refl _) (by simp; omega)
        rw [h4, List.take_of_length_le (by omega)] at hP
        have hF := Aside0.mk (And.intro hP.1 (h3.then_ hP.2 (fun _ h => .inl h)))
        have hci : ¬ cap = i := by omega
        have hic : i ≤ cap := by omega
        have hij2 : i ≤ j := by omega
        have hij3 : (i : Int) ≤ j := by omega
        clear hP h1 h2 h3 h4 h5 hnx hJ
        go_wp2
        go_ret
        exact ⟨_, rfl, hF.out.1, hF.out.2⟩
end Go.Proofs.Ytlmendmncfibfaa
