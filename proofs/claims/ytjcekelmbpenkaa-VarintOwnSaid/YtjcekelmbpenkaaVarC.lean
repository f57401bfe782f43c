/- The reference's AppendInt, AppendInts, AppendString: contracts. -/
import Derived.Test.YtjcekelmbpenkaaVarB
set_option linter.unusedVariables false
set_option linter.unusedSimpArgs false
namespace Go.Proofs.Ytjcekelmbpenkaa
open Go.RowKit Go.Proofs.YtjcekelmbpenkaaW.PrintWords Mem VarPure

theorem rzig_any (n : Int) (w : World) (hn : I64 n) :
    Calls Try.prog 43 #[.int .i64 n] w fun e w' => e = .returned (.int .u64 (zz n : Int)) ∧ w' = w := by
  obtain ⟨h1, h2⟩ := hn
  have hx := Aside0.mk h1
  have hy := Aside0.mk h2
  clear h1 h2
  by_cases c : 0 ≤ n
  · have hc : decide (0 ≤ n) = true := decide_eq_true c
    have hc' := Aside0.mk c
    clear c
    go_enter Try.func43, Try.ntmps43
    go_wp2
    go_ret
    refine ⟨?_, rfl⟩
    have h1 := hx.out
    have h2 := hy.out
    have h3 := hc'.out
    have e1 : (((2 * n).toNat : Nat) : Int) = 2 * (n % 18446744073709551616) % 18446744073709551616 := by omega
    unfold zz
    rw [if_pos h3, e1]
    rfl
  · have hc : decide (0 ≤ n) = false := decide_eq_false c
    have hc' := Aside0.mk c
    clear c
    go_enter Try.func43, Try.ntmps43
    go_wp2
    go_ret
    refine ⟨?_, rfl⟩
    have h1 := hx.out
    have h2 := hy.out
    have h3 := hc'.out
    unfold zz
    rw [if_neg (by omega : ¬ 0 ≤ n)]
    show Ending.returned (.int .u64 _) = _
    congr 2
    simp only [wrap_u64, wrap64]
    omega

theorem raint_any (n c : Nat) (A : Option Addr) (l : List Int) (m : Int) (w : World) (hk : Kd.C Byt w A n l) (hm : I64 m) (hn : n ≤ 1000000000) :
    Calls Try.prog 25 #[.slice A n c, .int .i64 m] w fun e w' => ∃ v, e = .returned v ∧ Kd.R Byt 5 w' 0 (fun k => w.heap.size ≤ k) v (l ++ encI m) ∧ Kp (fun _ => False) w w' := by
  have hl : l.length ≤ 1000000000 := by rw [hk.1]; exact hn
  have hk' := Aside0.mk (And.intro hk hm)
  clear hk hm
  have hz := zz_lt hk'.out.2
  go_enter Try.func25, Try.ntmps25
  go_wp2_with (first
    | (at_builtin; go_loud (refine Kd.R_append_rows Byt (Rr := fun x cs => cs = [.int .u8 x]) 0 (by rfl) (.tmp 7) (.tmp 8) 22 5 (.int .u8 0) 1 (by rfl) Try.underlying22 info5 rfl (by decide) (by decide) (.slice (some ⟨w.heap.size, 0, none⟩) 0 0) [] l A n c (fun k => w.heap.size ≤ k) (fun _ => False) (by rfl) (by rfl) (own_empty w 0 #[] _ (Nat.le_refl _) (Nat.zero_le _) rfl) (Kd.C_alloc hk'.out.1 _) (fun _ _ h => h) (fun _ h => h.elim) (fun k hk => by simp at hk; omega) (Below.refl _ _) (Nat.zero_le _) (by simp; omega) ?_; intro v1 w2 hRA hBA hgA hatA; simp only [List.nil_append] at hRA; have h1 : Aside0 (Kd.R Byt 5 w2 0 (fun k => w.heap.size ≤ k) v1 l ∧ Kp (fun k => w.heap.size ≤ k) w w2) := ⟨hRA, (((Kp.refl _ w).alloc _).grown hgA (fun k hk => .inr (by simp [Value.ownBlock] at hk; omega)))⟩; clear hRA hBA hgA hatA))
    | (go_at_call 43; refine (rzig_any m _ hk'.out.2).mono ?_; rintro e w3 ⟨rfl, rfl⟩))
  go_loopw [5, 6] (fun v5 v6 wr => ∃ x : Int, v6 = .int .u64 x ∧ 0 ≤ x ∧ x < 18446744073709551616 ∧ ∃ (f : Nat) (acc : List Int), Aside0 (x.toNat < 128 ^ (f + 1) ∧ acc ++ encF f x.toNat = l ++ encI m ∧ acc.length + f ≤ l.length + 9) ∧ Aside0 (Kd.R Byt 5 wr 0 (fun k => w.heap.size ≤ k) v5 acc) ∧ Aside0 (Kp (fun k => w.heap.size ≤ k) w wr)) (fun _ v _ => (intOf v).toNat)
  case atStart =>
    refine ⟨_, rfl, by omega, by omega, 9, l, ⟨?_, by simp [encI], by omega⟩, ⟨?_⟩, ⟨?_⟩⟩
    · simp; exact Nat.lt_of_lt_of_le (zz_lt hk'.out.2) (by decide)
    · first | exact h1.out.1 | exact Kd.R_drewN h1.out.1 _
    · first | exact h1.out.2 | exact h1.out.2.drewN _
  case round =>
    obtain ⟨x, rfl, hx0, hx1, f, acc, hF, hR, hK⟩ := hrel
    have hal : Aside0 (acc.length < 140737488355000) := ⟨by have := hF.out.2.2; omega⟩
    by_cases cx : 128 ≤ x
    · have hc : decide (128 ≤ x) = true := decide_eq_true cx
      go_wp2_with (at_builtin; refine Kd.R_append Byt 0 (by rfl) (.tmp 14) (.tmp 19) 22 5 (.int .u8 0) 1 (by rfl) Try.underlying22 info5 rfl (by decide) (by decide) u5 acc (x % 128 + 128) [.int .u8 (x % 128 + 128)] (fun k => w.heap.size ≤ k) (fun _ => False) rfl rfl rfl (fun _ h => h.elim) (fun k hk => by have := hK.out.size; first | omega | (simp at hk; omega)) (by first | exact hR.out | exact Kd.R_drewN hR.out _) (Below.refl _ _) (Nat.zero_le _) (by have := hal.out; omega) ?_; intro v1 w2 hRA hBA hgA hatA)
      obtain ⟨f, rfl⟩ : ∃ g, f = g + 1 := by
        cases f with
        | zero => have := hF.out.1; simp at this; omega
        | succ g => exact ⟨g, rfl⟩
      have hxd : (IntKind.u64.wrap (Int.tdiv x 128)) = x / 128 := by rw [wrap_u64, Int.tdiv_eq_ediv_of_nonneg hx0]; omega
      go_roundw
      case rel =>
        refine ⟨_, rfl, by omega, by omega, f, _, ⟨?_, ?_, ?_⟩, ⟨hRA⟩, ⟨?_⟩⟩
        · have := hF.out.1; rw [Nat.pow_succ] at this; omega
        · rw [← hF.out.2.1]
          have e : encF (f + 1) x.toNat = ((x.toNat % 128 + 128 : Nat) : Int) :: encF f (x.toNat / 128) := by rw [encF, if_neg (by omega)]
          rw [e, List.append_assoc]
          congr 1
          simp only [List.cons_append, List.nil_append]
          congr 1
          · omega
          · congr 1; omega
        · have := hF.out.2.2; simp; omega
        · exact hK.out.grown hgA (fun k hk => .inr (hR.out.1 k hk))
      case measure => simp [intOf]; omega
    · have hc : decide (128 ≤ x) = false := decide_eq_false cx
      go_wp2_with (at_builtin; refine Kd.R_append Byt 0 (by rfl) (.tmp 23) (.tmp 26) 22 5 (.int .u8 0) 1 (by rfl) Try.underlying22 info5 rfl (by decide) (by decide) u5 acc x [.int .u8 x] (fun k => w.heap.size ≤ k) (fun _ => False) rfl rfl rfl (fun _ h => h.elim) (fun k hk => by have := hK.out.size; first | omega | (simp at hk; omega)) (by first | exact hR.out | exact Kd.R_drewN hR.out _) (Below.refl _ _) (Nat.zero_le _) (by have := hal.out; omega) ?_; intro v1 w2 hRA hBA hgA hatA)
      go_ret
      have hfe : acc ++ [x] = l ++ encI m := by
        rw [← hF.out.2.1]
        congr 1
        cases f with
        | zero => rw [encF]; congr 1; omega
        | succ f => rw [encF, if_pos (by omega)]; congr 1; omega
      refine ⟨_, rfl, hfe ▸ hRA, ?_⟩
      exact Kp.of_below ((hK.out.grown hgA (fun k hk => .inr (hR.out.1 k hk))).below (fun _ h => h)) _

set_option maxHeartbeats 1000000 in
theorem raints_any (n c m c2 : Nat) (A A2 : Option Addr) (l q : List Int) (w : World) (hk : Kd.C Byt w A n l) (hq : Kd.C (Kd.int .i64) w A2 m q) (hw : ∀ x ∈ q, I64 x) (hn : n ≤ 100000000) (hm : m ≤ 10000) :
    Calls Try.prog 27 #[.slice A n c, .slice A2 m c2] w fun e w' => ∃ v, e = .returned v ∧ Kd.R Byt 5 w' 0 (fun k => w.heap.size ≤ k) v (l ++ encL q) ∧ Kp (fun _ => False) w w' := by
  have hl : l.length ≤ 100000000 := by rw [hk.1]; exact hn
  have hqm : q.length = m := hq.1
  have hk' := Aside0.mk (And.intro hk (And.intro hq (And.intro hw hqm)))
  clear hk hq hw hqm
  have hI : I64 (m : Int) := by unfold I64; omega
  have hI' := Aside0.mk hI
  clear hI
  have hlen := (encI_len (m : Int)).2
  go_enter Try.func27, Try.ntmps27
  go_wp2_with (go_at_call 25; refine (raint_any n c A l m _ hk'.out.1 hI'.out (by omega)).mono ?_; rintro e w1 ⟨v, rfl, hR, hK⟩; have h2 := Aside0.mk (And.intro hR (hK.mono (S' := fun k => w.heap.size ≤ k) (fun _ h => h.elim))); clear hR hK)
  go_loopw [5, 14] (fun v5 v wr => ∃ k : Nat, k ≤ m ∧ v = .int .i64 k ∧ Aside0 (Kd.R Byt 5 wr 0 (fun k => w.heap.size ≤ k) v5 (l ++ encI m ++ (q.take k).flatMap encI)) ∧ Aside0 (Kp (fun k => w.heap.size ≤ k) w wr)) (fun _ v _ => m - (intOf v).toNat)
  case atStart => exact ⟨0, Nat.zero_le _, rfl, ⟨by simpa using h2.out.1⟩, ⟨h2.out.2⟩⟩
  case round =>
    obtain ⟨k, hkm, rfl, hR, hK⟩ := hrel
    by_cases hlt : k < m
    · have hkq : k < q.length := by rw [hk'.out.2.2.2]; exact hlt
      have h3 := Kd.C_below hk'.out.2.1 (hK.out.below (fun _ h => h))
      obtain ⟨ad, rfl, hc0⟩ := (Kd.reads_of_C (enc := Value.int .i64) (d := (0 : Int)) (h1 := fun _ => rfl) h3).at_ k (by omega) (by omega)
      obtain ⟨x, hx⟩ : ∃ x, x = q[k] := ⟨_, rfl⟩
      have hc1 : wr.cell? (ad.add k) = some (.int .i64 x) := by rw [hx]; simpa [rdOf, hkq] using hc0
      have hxI : Aside0 (I64 x) := ⟨hx ▸ hk'.out.2.2.1 _ (List.getElem_mem hkq)⟩
      have hfl := flat_len (q.take k)
      rw [List.length_take] at hfl
      have hfe : Aside0 (l ++ encI m ++ (q.take k).flatMap encI ++ encI x = l ++ encI m ++ (q.take (k + 1)).flatMap encI) := ⟨by
        rw [List.take_succ_eq_append_getElem hkq, hx, List.flatMap_append, List.append_assoc, List.flatMap_cons, List.flatMap_nil, List.append_nil]⟩
      have hb : Aside0 ((l ++ encI m ++ (q.take k).flatMap encI).length ≤ 1000000000) := ⟨by simp only [List.length_append]; omega⟩
      obtain ⟨acc, hacc⟩ : ∃ acc, acc = l ++ encI m ++ (q.take k).flatMap encI := ⟨_, rfl⟩
      rw [← hacc] at hfe hb hR
      obtain ⟨A5, c5, rfl, _, hC5⟩ := Kd.R_reads hR.out
      have hC5' := Aside0.mk hC5
      clear hacc
      clear h3 hx hc0 hfl hC5
      go_wp2_with (go_at_call 25; refine (raint_any acc.length c5 A5 acc x wr hC5'.out hxI.out hb.out).mono ?_; rintro e w3 ⟨v3, rfl, hR3, hK3⟩)
      go_roundw
      case rel => exact ⟨k + 1, by omega, by go_num, ⟨hfe.out ▸ Kd.R_mono hR3 (fun j hj => by have := hK.out.size; omega)⟩, ⟨hK.out.then_ hK3 (fun j hj => hj.elim)⟩⟩
      case measure => simp [intOf]; omega
    · have hke : k = m := by omega
      have hfe : Aside0 (l ++ encI m ++ (q.take k).flatMap encI = l ++ encL q) := ⟨by
        rw [List.take_of_length_le (by rw [hk'.out.2.2.2]; omega), encL, hk'.out.2.2.2, List.append_assoc]⟩
      clear hke
      go_wp2
      go_ret
      exact ⟨_, rfl, hfe.out ▸ hR.out, hK.out.below (fun _ h => h) |> fun hb => Kp.of_below hb _⟩

theorem rastr_any (n c : Nat) (A : Option Addr) (l : List Int) (s : ByteArray) (w : World) (hk : Kd.C Byt w A n l) (hn : n ≤ 1000000000) (hs : s.size ≤ 10000) :
    Calls Try.prog 29 #[.slice A n c, .string s] w fun e w' => ∃ v, e = .returned v ∧ Kd.R Byt 5 w' 0 (fun k => w.heap.size ≤ k) v (l ++ encS s) ∧ Kp (fun _ => False) w w' := by
  have hl : l.length ≤ 1000000000 := by rw [hk.1]; exact hn
  have hk' := Aside0.mk hk
  clear hk
  have hI : I64 (s.size : Int) := by unfold I64; omega
  have hI' := Aside0.mk hI
  clear hI
  have hlen := (encI_len (s.size : Int)).2
  go_enter Try.func29, Try.ntmps29
  go_wp2_with (first
    | (go_at_call 25; refine (raint_any n c A l s.size _ hk'.out hI'.out (by omega)).mono ?_; rintro e w2 ⟨v2, rfl, hR2, hK2⟩; have h2 : Aside0 (Kd.R Byt 5 w2 0 (fun k => w.heap.size ≤ k) v2 (l ++ encI s.size) ∧ Kp (fun k => w.heap.size ≤ k) w w2) := ⟨hR2, hK2.mono (fun _ h => h.elim)⟩; obtain ⟨A2, c2, rfl, _, _⟩ := Kd.R_reads hR2; clear hR2 hK2)
    | (at_builtin; refine print_append_str (w0 := w2) w.heap.size (by rfl) (.tmp 8) (.tmp 9) 22 9 5 (by rfl) Try.underlying22 Try.underlying9 info5 (.slice A2 (l ++ encI s.size).length c2) (l ++ encI s.size) s (by rw [List.length_append]; rfl) (by rfl) (own_of_R' h2.out.1 (fun _ h => h)) (Below.refl _ _) h2.out.2.size (by simp only [List.length_append]; omega) ?_; intro v3 w3 ho3 hb3 hg3))
  go_ret
  refine ⟨_, rfl, ?_, ?_⟩
  · have := R_of_own' ho3
    rwa [List.append_assoc] at this
  · exact Kp.of_below ((h2.out.2.grown hg3 (fun k hk => .inl (h2.out.1.1 k hk))).below (fun _ h => h)) _
end Go.Proofs.Ytjcekelmbpenkaa
