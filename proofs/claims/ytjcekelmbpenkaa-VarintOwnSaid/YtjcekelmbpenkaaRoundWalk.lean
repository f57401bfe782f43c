/- VarintRound: the walk. -/
import Derived.Test.YtjcekelmbpenkaaAppWalk
import Derived.Test.YtjcekelmbpenkaaRtPure2
set_option linter.unusedVariables false
set_option linter.unusedSimpArgs false
namespace Go.Proofs.Ytjcekelmbpenkaa
open Go.RowKit Go.Proofs.YtjcekelmbpenkaaW.PrintWords Mem VarPure

theorem str_of_bytes (s : ByteArray) : strOfNums (bytesOf s) = s := by
  cases s with
  | mk d =>
    unfold strOfNums bytesOf
    simp only [List.map_map]
    congr 1
    apply Array.ext'
    simp only [List.toList_toArray]
    refine List.ext_getElem? fun i => ?_
    rw [List.getElem?_map, Array.getElem?_toList]
    cases h : d[i]? with
    | none => rfl
    | some x =>
      simp only [Option.map_some, Function.comp]
      congr 1
      apply UInt8.toNat_inj.1
      simp

theorem encF_bs (f z : Nat) : Bs (encF f z) := by
  induction f generalizing z with
  | zero => intro x hx; simp [encF] at hx; omega
  | succ f ih =>
    intro x hx
    rw [encF] at hx
    split at hx
    · simp at hx; omega
    · rcases List.mem_cons.1 hx with rfl | hx
      · omega
      · exact ih _ x hx
theorem Bs.app {a b : List Int} (ha : Bs a) (hb : Bs b) : Bs (a ++ b) := fun x hx => (List.mem_append.1 hx).elim (ha x) (hb x)
theorem flat_bs (q : List Int) : Bs (q.flatMap encI) := fun x hx => by
  obtain ⟨y, _, hy⟩ := List.mem_flatMap.1 hx
  exact encF_bs 9 _ x hy
theorem bytes_bs (s : ByteArray) : Bs (bytesOf s) := fun x hx => by
  unfold bytesOf at hx
  obtain ⟨y, _, rfl⟩ := List.mem_map.1 hx
  have := y.toNat_lt
  omega
theorem bs_all (q : List Int) (s : ByteArray) (t : List Int) (ht : Bs t) : Bs (encL q ++ encS s ++ q.flatMap encI ++ t) :=
  Bs.app (Bs.app (Bs.app (Bs.app (encF_bs 9 _) (flat_bs q)) (Bs.app (encF_bs 9 _) (bytes_bs s))) (flat_bs q)) ht

set_option maxRecDepth 100000 in
set_option maxHeartbeats 2000000 in
theorem round_main (A : Option Addr) (c : Nat) (q : List Int) (s : ByteArray) (A2 : Option Addr) (c2 : Nat) (t : List Int) (w : World)
    (hX : Aside0 (Kd.C KI w A q.length q ∧ Kd.C Byt w A2 t.length t ∧ (∀ x ∈ q, I64 x) ∧ Bs t)) (hc : q.length ≤ c) (hc2 : t.length ≤ c2)
    (d1 : decide ((100 : Int) < q.length) = false) (d2 : decide ((300 : Int) < s.size) = false) (d3 : decide ((100 : Int) < t.length) = false) (e1 : q.length ≤ 100) (e2 : s.size ≤ 300) (e3 : t.length ≤ 100) :
    Calls Try.prog 7 #[.slice A q.length c, .string s, .slice A2 t.length c2] w fun e w' => e = .returned (.bool true) ∧ Below w.heap.size w w' := by
  have hLl := encL_len q
  have hSl : (encS s).length ≤ 310 := by have := (encI_len (s.size : Int)).2; rw [encS, List.length_append, bytesOf_length]; omega
  go_enter Try.func7, Try.ntmps7
  go_wp2_with fail
  refine (aints_any 0 0 q.length c none A [] q w (Kd.C_nil _ _) hX.out.1 hX.out.2.2.1 (by omega) (by omega)).mono ?_
  rw [List.nil_append]
  rintro r w1 ⟨v1, rfl, hR1, hK1⟩
  obtain ⟨L, hL⟩ : ∃ L, L = encL q := ⟨_, rfl⟩
  obtain ⟨S, hS⟩ : ∃ S, S = encS s := ⟨_, rfl⟩
  have hLS := Aside0.mk (And.intro hL hS)
  rw [← hL] at hR1 hLl
  rw [← hS] at hSl
  clear hL hS
  obtain ⟨A3, c3, rfl, hc3, hC3⟩ := Kd.R_reads hR1
  have h1 := Aside0.mk (And.intro hC3 hK1)
  clear hR1 hK1 hC3
  go_wp2_with fail
  refine (astr_any L.length c3 A3 L s w1 h1.out.1 (by omega) (by omega)).mono ?_
  rw [← hLS.out.2]
  rintro r w2 ⟨v2, rfl, hR2, hK2⟩
  have h2 : Aside0 (Kd.R Byt 5 w2 0 (fun k => w.heap.size ≤ k) v2 (L ++ S) ∧ Kp (fun k => w.heap.size ≤ k) w w2) := ⟨Kd.R_mono hR2 (fun k hk => by have := h1.out.2.size; omega), (h1.out.2.then_ hK2 (fun _ h => h.elim)).mono (fun _ h => h.elim)⟩
  clear hR2 hK2
  go_wp2_with fail
  go_loopw [7, 33] (fun v7 v wr => ∃ k : Nat, k ≤ q.length ∧ v = .int .i64 k ∧ Aside0 (Kd.R Byt 5 wr 0 (fun k => w.heap.size ≤ k) v7 (L ++ S ++ (q.take k).flatMap encI)) ∧ Aside0 (Kp (fun k => w.heap.size ≤ k) w wr)) (fun _ v _ => q.length - (intOf v).toNat)
  case atStart => exact ⟨0, Nat.zero_le _, rfl, ⟨by simpa using h2.out.1⟩, ⟨h2.out.2⟩⟩
  case round =>
    obtain ⟨k, hk, rfl, hR, hK⟩ := hrel
    by_cases hlt : k < q.length
    · obtain ⟨ad, rfl, hc0⟩ := (Kd.reads_of_C (enc := Value.int .i64) (d := (0 : Int)) (h1 := fun _ => rfl) (Kd.C_below hX.out.1 (hK.out.below (fun _ h => h)))).at_ k (by omega) (by omega)
      obtain ⟨x, hx⟩ : ∃ x, x = q[k] := ⟨_, rfl⟩
      have hc1 : wr.cell? (ad.add k) = some (.int .i64 x) := by rw [hx]; simpa [rdOf, hlt] using hc0
      have hxI : Aside0 (I64 x) := ⟨hx ▸ hX.out.2.2.1 _ (List.getElem_mem hlt)⟩
      have hfl := flat_len (q.take k)
      rw [List.length_take] at hfl
      obtain ⟨acc, hacc⟩ : ∃ acc, acc = L ++ S ++ (q.take k).flatMap encI := ⟨_, rfl⟩
      have hfe : Aside0 (acc ++ encI x = L ++ S ++ (q.take (k + 1)).flatMap encI) := ⟨by
        rw [hacc, List.take_succ_eq_append_getElem hlt, hx, List.flatMap_append, ← List.append_assoc, List.flatMap_cons, List.flatMap_nil, List.append_nil]⟩
      have hb : acc.length ≤ 1000000 := by rw [hacc]; simp only [List.length_append]; omega
      rw [← hacc] at hR
      obtain ⟨A5, c5, rfl, _, hC5⟩ := Kd.R_reads hR.out
      have hC5' := Aside0.mk hC5
      clear hacc hx hc0 hfl hC5
      go_wp2_with (go_at_call 9; refine (aint_any acc.length c5 A5 acc x wr hC5'.out hxI.out (by omega)).mono ?_; rintro e w3 ⟨v3, rfl, hR3, hK3⟩)
      go_roundw
      case rel => exact ⟨k + 1, by omega, by go_num, ⟨hfe.out ▸ Kd.R_mono hR3 (fun j hj => by have := hK.out.size; omega)⟩, ⟨hK.out.then_ hK3 (fun j hj => hj.elim)⟩⟩
      case measure => simp [intOf]; omega
    · have hke : k = q.length := by omega
      have hfl := flat_len q
      obtain ⟨F, hF⟩ : ∃ F, F = q.flatMap encI := ⟨_, rfl⟩
      rw [hke, List.take_length, ← hF] at hR
      rw [← hF] at hfl
      have hF' := Aside0.mk hF
      clear hke hF
      obtain ⟨acc, hacc⟩ : ∃ acc, acc = L ++ S ++ F := ⟨_, rfl⟩
      rw [← hacc] at hR
      have hb : acc.length ≤ 1000000 := by rw [hacc]; simp only [List.length_append]; omega
      have hacc' := Aside0.mk hacc
      have hCt := Aside0.mk (Kd.C_below hX.out.2.1 (hK.out.below (fun _ h => h)))
      clear hacc
      go_wp2_with (at_builtin; refine Kd.R_append_rows Byt (Rr := fun x cs => cs = [.int .u8 x]) 0 (by rfl) (.tmp 41) (.tmp 42) 22 5 (.int .u8 0) 1 (by rfl) Try.underlying22 info5 rfl (by decide) (by decide) _ acc t A2 t.length c2 (fun k => w.heap.size ≤ k) (fun _ => False) (by rfl) (by rfl) hR.out hCt.out (fun _ _ h => h) (fun _ h => h.elim) (fun k hk => by have := hK.out.size; omega) (Below.refl _ _) (Nat.zero_le _) (by omega) ?_; intro v1 w3 hRA hBA hgA hatA; have hA : Aside0 (Kd.R Byt 5 w3 0 (fun k => w.heap.size ≤ k) v1 (acc ++ t) ∧ Kp (fun k => w.heap.size ≤ k) w w3) := ⟨hRA, hK.out.grown hgA (fun k hk => .inr (hR.out.1 k hk))⟩; clear hRA hBA hgA hatA)
      have hA2 := Aside0.mk (Kd.R_reads hA.out.1)
      obtain ⟨A6, c6, rfl, hc6, hC6⟩ := hA2.out
      have hC6' := Aside0.mk hC6
      obtain ⟨B, hB⟩ : ∃ B, B = acc ++ t := ⟨_, rfl⟩
      rw [← hB] at hC6' hA
      have hBl : B.length ≤ 100000 := by rw [hB, hacc'.out]; simp only [List.length_append]; omega
      have hBl2 : (acc ++ t).length = B.length := by rw [hB]
      have hBB := Aside0.mk hB
      clear hA2 hC6 hB
      rw [hBl2]
      refine (new_any B.length c6 A6 B w3 hC6'.out ?_ hBl).mono ?_
      · rw [hBB.out, hacc'.out, hLS.out.1, hLS.out.2, hF'.out]
        exact bs_all q s t hX.out.2.2.2
      rintro r w4 ⟨p, rfl, hD4, hK4⟩
      have hp4 : w.heap.size ≤ p := by have := hD4.okp; have := hA.out.2.size; omega
      have h4 : Aside0 (Rdr w4 (fun k => w.heap.size ≤ k) p B 0 ∧ Kp (fun k => w.heap.size ≤ k) w w4) := ⟨hD4.mono (fun k hk => by have := hA.out.2.size; omega), hA.out.2.then_ hK4 (fun _ h => h.elim)⟩
      clear hD4 hK4 hBl2
      obtain ⟨G, hG⟩ : ∃ G, G = S ++ F ++ t := ⟨_, rfl⟩
      have hGG := Aside0.mk hG
      have hGl : G.length ≤ 10000 := by rw [hG]; simp only [List.length_append]; omega
      have hI1 : Aside0 (rdIs B 0 = (q, G, 0)) := ⟨by
        rw [hBB.out, hacc'.out, hLS.out.1, List.append_assoc, List.append_assoc, ← List.append_assoc S F t, ← hGG.out]
        exact rdIs_enc hX.out.2.2.1 (by omega) hGl⟩
      clear hG
      go_wp2_with fail
      refine (ints_any h4.out.1).mono ?_
      rw [hI1.out]
      rintro r w5 ⟨v5, rfl, hO5, hD5, hK5⟩
      obtain ⟨A7, c7, rfl, hc7, hC7⟩ := Kd.R_reads hO5
      have h5 := Aside0.mk (And.intro hC7 (And.intro hD5 (h4.out.2.then_ hK5 (fun k hk => .inl (by omega)))))
      clear hO5 hD5 hK5 hC7
      go_wp2_with fail
      refine (eqi_any c7 c A7 A q q w5 h5.out.1 (Kd.C_below hX.out.1 (h5.out.2.2.below (fun _ h => h))) hc7 hc (by omega)).mono ?_
      rw [show decide (q = q) = true by simp]
      rintro r w6 ⟨rfl, n6, rfl⟩
      have h6 := Aside0.mk (And.intro (h5.out.2.1.step (w1 := w5.drewN n6) (fun _ _ _ => rfl)) (h5.out.2.2.drewN n6))
      obtain ⟨W6, hW6⟩ : ∃ W, W = w5.drewN n6 := ⟨_, rfl⟩
      rw [← hW6] at h6 ⊢
      clear hW6
      obtain ⟨H, hH⟩ : ∃ H, H = F ++ t := ⟨_, rfl⟩
      have hHl : H.length ≤ 10000 := by rw [hH]; simp only [List.length_append]; omega
      have hS1 : Aside0 (rdS G 0 = (bytesOf s, H, 0)) := ⟨by
        rw [hGG.out, hLS.out.2, List.append_assoc, ← hH]
        exact rdS_enc (by omega) hHl⟩
      have hHH := Aside0.mk hH
      clear hH
      go_wp2_with fail
      refine (string_any h6.out.1).mono ?_
      rw [hS1.out, str_of_bytes]
      rintro r w7 ⟨rfl, hD7, hK7⟩
      have h7 := Aside0.mk (And.intro hD7 (h6.out.2.then_ hK7 (fun k hk => .inl (by omega))))
      clear hD7 hK7
      go_wp2
      clear hK hR hCt
      go_loopw [62] (fun v wr => ∃ k : Nat, k ≤ q.length ∧ v = .int .i64 k ∧ Aside0 (Rdr wr (fun k => w.heap.size ≤ k) p ((q.drop k).flatMap encI ++ t) 0) ∧ Aside0 (Kp (fun k => w.heap.size ≤ k) w wr)) (fun v _ => q.length - (intOf v).toNat)
      case atStart => exact ⟨0, Nat.zero_le _, rfl, ⟨by have := h7.out.1; rw [hHH.out, hF'.out] at this; exact this⟩, ⟨h7.out.2⟩⟩
      case round =>
        obtain ⟨j, hj, rfl, hD, hK⟩ := hrel
        by_cases hlt : j < q.length
        · obtain ⟨ad, rfl, hc0⟩ := (Kd.reads_of_C (enc := Value.int .i64) (d := (0 : Int)) (h1 := fun _ => rfl) (Kd.C_below hX.out.1 (hK.out.below (fun _ h => h)))).at_ j (by omega) (by omega)
          obtain ⟨x, hx⟩ : ∃ x, x = q[j] := ⟨_, rfl⟩
          have hc1 : wr.cell? (ad.add j) = some (.int .i64 x) := by rw [hx]; simpa [rdOf, hlt] using hc0
          have hrd : Aside0 (rdI ((q.drop j).flatMap encI ++ t) 0 = (x, (q.drop (j + 1)).flatMap encI ++ t, 0)) := ⟨by
            rw [List.drop_eq_getElem_cons hlt, List.flatMap_cons, List.append_assoc, ← hx]
            exact rdI_enc (hx ▸ hX.out.2.2.1 _ (List.getElem_mem hlt)) _⟩
          clear hx hc0
          go_wp2_with (go_at_call 14; refine (int_any hD.out).mono ?_; rw [hrd.out]; rintro r w8 ⟨rfl, hD8, hK8⟩; have h8 := Aside0.mk (And.intro hD8 (hK.out.then_ hK8 (fun k hk => .inl (by omega)))); clear hD8 hK8)
          go_roundw
          case rel => exact ⟨j + 1, by omega, by go_num, ⟨h8.out.1⟩, ⟨h8.out.2⟩⟩
          case measure => simp [intOf]; omega
        · have hjl : j = q.length := by omega
          have hD9 : Aside0 (Rdr wr (fun k => w.heap.size ≤ k) p t 0) := ⟨by have := hD.out; rw [hjl, List.drop_length] at this; exact this⟩
          clear hjl
          go_wp2_with (first
            | (go_at_call 21; refine (err_any hD9.out).mono ?_; rintro r w10 ⟨rfl, rfl⟩)
            | (go_at_call 23; refine (len_any hD9.out).mono ?_; rintro r w11 ⟨rfl, n11, rfl⟩)
            | (go_at_call 11; refine (works_any _).mono ?_; rintro r w12 ⟨rfl, hB12⟩))
          go_ret
          exact ⟨rfl, below_then ((hK.out.drewN n11).below (fun _ h => h)) (hK.out.drewN n11).size hB12⟩

set_option maxHeartbeats 1000000 in
theorem round_walk (A : Option Addr) (c : Nat) (q : List Int) (s : ByteArray) (A2 : Option Addr) (c2 : Nat) (t : List Int) (w : World)
    (hc : q.length ≤ c) (hC : Kd.C KI w A q.length q) (hg : q.length * 8 ≤ 140737488351232 ∧ ∀ x ∈ q, (Lit.int .i64 x).wf = true) (hs : s.size ≤ 140737488351232)
    (hc2 : t.length ≤ c2) (hC2 : Kd.C Byt w A2 t.length t) (hg2 : t.length * 1 ≤ 140737488351232 ∧ ∀ x ∈ t, (Lit.int .u8 x).wf = true) :
    Calls Try.prog 7 #[.slice A q.length c, .string s, .slice A2 t.length c2] w fun e w' => e = .returned (.bool true) ∧ Below w.heap.size w w' := by
  have hX := Aside0.mk (And.intro hC (And.intro hC2 (And.intro (fun x hx => wf_i64 (hg.2 x hx)) (wf_u8 hg2.2))))
  have hbl := hg.1
  have hql := hg2.1
  clear hg hg2 hC hC2
  by_cases e1 : 100 < q.length
  · have d1 : decide ((100 : Int) < q.length) = true := by simp; omega
    go_enter Try.func7, Try.ntmps7
    go_wp2_with (go_at_call 11; refine (works_any _).mono ?_; rintro r w1 ⟨rfl, hB⟩)
    go_ret
    exact ⟨rfl, hB⟩
  have d1 : decide ((100 : Int) < q.length) = false := by simp; omega
  by_cases e2 : 300 < s.size
  · have d2 : decide ((300 : Int) < s.size) = true := by simp; omega
    go_enter Try.func7, Try.ntmps7
    go_wp2_with (go_at_call 11; refine (works_any _).mono ?_; rintro r w1 ⟨rfl, hB⟩)
    go_ret
    exact ⟨rfl, hB⟩
  have d2 : decide ((300 : Int) < s.size) = false := by simp; omega
  by_cases e3 : 100 < t.length
  · have d3 : decide ((100 : Int) < t.length) = true := by simp; omega
    go_enter Try.func7, Try.ntmps7
    go_wp2_with (go_at_call 11; refine (works_any _).mono ?_; rintro r w1 ⟨rfl, hB⟩)
    go_ret
    exact ⟨rfl, hB⟩
  have d3 : decide ((100 : Int) < t.length) = false := by simp; omega
  exact round_main A c q s A2 c2 t w hX hc hc2 d1 d2 d3 (by omega) (by omega) (by omega)
end Go.Proofs.Ytjcekelmbpenkaa
