/- EqualFunc over same, and awake. -/
import Derived.Test.YtlmendmncfibfaaSeqH
set_option linter.unusedVariables false
set_option linter.unusedSimpArgs false
namespace Go.Proofs.Ytlmendmncfibfaa
open Go.RowKit Go.Proofs.YtlmendmncfibfaaW.PrintWords Go.Proofs.Ytlmendmncfibfaa.POutofssaSequentializes Mem

theorem same_any (x : S28) (A : Option Addr) (c : Nat) (A2 : Option Addr) (c2 : Nat) (w : World) (h1 : Kd.C (Kd.int .i64) w A x.f3.length x.f3) (hc : x.f3.length ≤ c) (h2 : Kd.C (Kd.int .i64) w A2 x.f3.length x.f3) (hc2 : x.f3.length ≤ c2) (hm : x.f3.length ≤ 1000000) :
    Calls Try.prog 9 #[.agg #[.int .i64 x.f0, .int .i64 x.f1, .int .i64 x.f2, .slice A x.f3.length c, .int .i64 x.f4, .int .i64 x.f5, .int .i64 x.f6, .bool x.f7], .agg #[.int .i64 x.f0, .int .i64 x.f1, .int .i64 x.f2, .slice A2 x.f3.length c2, .int .i64 x.f4, .int .i64 x.f5, .int .i64 x.f6, .bool x.f7]] w fun e w' => e = .returned (.bool true) ∧ Below w.heap.size w w' :=
  burnishlaw26_same.calls (x.f3.length + 1) x.f0 x.f1 x.f2 A c x.f3 x.f4 x.f5 x.f6 x.f7 x.f0 x.f1 x.f2 A2 c2 x.f3 x.f4 x.f5 x.f6 x.f7 true w h1 hc h2 hc2 (same_f x _ (by omega) (by omega))

theorem at28 {w : World} {A : Option Addr} {xs : List S28} (h : Kd.C k28 w A xs.length xs) (k : Nat) (hk : k < xs.length) : ∃ ad B c, A = some ad ∧ w.cell? (ad.add (k * 8)) = some (.int .i64 xs[k].f0) ∧ w.cell? ⟨(ad.add (k * 8)).block, (ad.add (k * 8)).off + 1, none⟩ = some (.int .i64 xs[k].f1) ∧ w.cell? ⟨(ad.add (k * 8)).block, (ad.add (k * 8)).off + 2, none⟩ = some (.int .i64 xs[k].f2) ∧ w.cell? ⟨(ad.add (k * 8)).block, (ad.add (k * 8)).off + 3, none⟩ = some (.slice B xs[k].f3.length c) ∧ w.cell? ⟨(ad.add (k * 8)).block, (ad.add (k * 8)).off + 4, none⟩ = some (.int .i64 xs[k].f4) ∧ w.cell? ⟨(ad.add (k * 8)).block, (ad.add (k * 8)).off + 5, none⟩ = some (.int .i64 xs[k].f5) ∧ w.cell? ⟨(ad.add (k * 8)).block, (ad.add (k * 8)).off + 6, none⟩ = some (.int .i64 xs[k].f6) ∧ w.cell? ⟨(ad.add (k * 8)).block, (ad.add (k * 8)).off + 7, none⟩ = some (.bool xs[k].f7) ∧ xs[k].f3.length ≤ c ∧ (Kd.int .i64).C w B xs[k].f3.length xs[k].f3 := by
  obtain ⟨ad, B, c, e, h⟩ := at_T28 h (k : Int) (by omega) (by omega)
  have e1 : rd_T28 xs (k : Int) = xs[k] := by simp [rd_T28, hk]
  rw [e1, Int.toNat_natCast] at h
  exact ⟨ad, B, c, e, h⟩

set_option maxRecDepth 100000 in
set_option maxHeartbeats 1000000 in
theorem eqf_any (A : Option Addr) (c : Nat) (B : Option Addr) (c2 : Nat) (xs : List S28) (w : World) (hA : Kd.C k28 w A xs.length xs) (hB : Kd.C k28 w B xs.length xs) (hm : xs.length ≤ 1000000) (hf : ∀ x ∈ xs, x.f3.length ≤ 1000000) :
    Calls Try.prog 6 #[.slice A xs.length c, .slice B xs.length c2, .func (.func 9) #[] #[]] w fun e w' => e = .returned (.bool true) ∧ Below w.heap.size w w' := by
  have hX := Aside0.mk (And.intro hA (And.intro hB hf))
  clear hA hB hf
  go_enter Try.func6, Try.ntmps6
  go_wp2_with fail
  go_loopw [17] (fun v wr => ∃ k : Nat, k ≤ xs.length ∧ v = .int .i64 k ∧ Aside0 (Below w.heap.size w wr)) (fun v _ => xs.length - (intOf v).toNat)
  case atStart => exact ⟨0, Nat.zero_le _, rfl, ⟨Below.refl _ _⟩⟩
  case round =>
    obtain ⟨k, hk, rfl, hI⟩ := hrel
    by_cases hlt : k < xs.length
    · obtain ⟨ad, A1, c1, rfl, a0, a1, a2, a3, a4, a5, a6, a7, al, aC⟩ := at28 (Kd.C_below hX.out.1 hI.out) k hlt
      obtain ⟨bd, B1, d1, rfl, b0, b1, b2, b3, b4, b5, b6, b7, bl, bC⟩ := at28 (Kd.C_alloc (Kd.C_below hX.out.2.1 hI.out) (.cells #[.int .i64 xs[k].f0, .int .i64 xs[k].f1, .int .i64 xs[k].f2, .slice A1 xs[k].f3.length c1, .int .i64 xs[k].f4, .int .i64 xs[k].f5, .int .i64 xs[k].f6, .bool xs[k].f7] 28)) k hlt
      have hm2 := hX.out.2.2 xs[k] (List.getElem_mem hlt)
      obtain ⟨x, hx⟩ : ∃ x, x = xs[k] := ⟨_, rfl⟩
      rw [← hx] at a0 a1 a2 a3 a4 a5 a6 a7 al aC b0 b1 b2 b3 b4 b5 b6 b7 bl bC hm2
      have hY := Aside0.mk (And.intro aC (And.intro bC (And.intro al (And.intro bl hm2))))
      clear aC bC al bl hm2 hx
      have hlti : (k : Int) < xs.length := by omega
      go_wp2_with (go_at_call 9; refine (same_any x A1 c1 B1 d1 _ (Kd.C_alloc (Kd.C_alloc hY.out.1 _) _) hY.out.2.2.1 (Kd.C_alloc hY.out.2.1 _) hY.out.2.2.2.1 hY.out.2.2.2.2).mono ?_; rintro e w2 ⟨rfl, hB2⟩; have hB3 := Aside0.mk ((below_alloc (below_alloc hI.out _) _).trans (hB2.mono (by have := hI.out.size; simp; omega))); clear hB2)
      go_roundw
      case rel => exact ⟨k + 1, by omega, by go_num, hB3⟩
      case measure => simp [intOf]; omega
    · go_wp2
      go_ret
      exact ⟨rfl, hI.out⟩

theorem seqR_1 : seqR [1, 2] [2, 1] 9 = [cp 0 ⟨9, 1⟩, cp 0 ⟨1, 2⟩, cp 0 ⟨2, 9⟩] := by rfl
theorem seqR_2 : seqR [1, 2] [2, 3] 9 = [cp 0 ⟨1, 2⟩, cp 0 ⟨2, 3⟩] := by rfl
theorem seqR_3 : seqR [1, 1] [2, 3] 9 = [] := by rfl
theorem move_any (d s : Int) (w : World) : Calls Try.prog 11 #[.int .i64 d, .int .i64 s] w fun e w' => ∃ A c, e = .returned (.agg #[.int .i64 4, .int .i64 0, .int .i64 d, .slice A 1 c, .int .i64 0, .int .i64 0, .int .i64 0, .bool false]) ∧ 1 ≤ c ∧ Kd.C (Kd.int .i64) w' A 1 [s] ∧ Below w.heap.size w w' := by
  refine (burnishlaw26_move.calls d s 4 0 d [s] 0 0 0 false w rfl).mono ?_
  rintro e w' ⟨v, rfl, hR, hb⟩
  obtain ⟨A, c, rfl, hle, hC⟩ := Kd.R_reads hR
  exact ⟨A, c, rfl, hle, hC, hb⟩
theorem C_lit (w : World) (cs : Array Value) (rows : List (List Value)) (xs : List S28) (hs : cs.size ≤ 1000000) (hc : ∀ (j : Nat) (c : List Value), rows[j]? = some c → ∀ (i : Nat) u, c[i]? = some u → cs[j * 8 + i]? = some u) (hl : rows.length = xs.length) (hx : xs.length ≤ 1000000)
    (hK : ∀ (j : Nat) (x : S28) (c : List Value), xs[j]? = some x → rows[j]? = some c → k28.K (w.alloc (.cells cs 28)) x c) : Kd.C k28 (w.alloc (.cells cs 28)) (some ⟨w.heap.size, 0, none⟩) xs.length xs := by
  refine ⟨rfl, by omega, fun hp => ⟨⟨w.heap.size, 0, none⟩, rfl, fun j x hj => ?_⟩⟩
  have hjl : j < rows.length := by rw [hl]; exact (List.getElem?_eq_some_iff.1 hj).1
  have hr := List.getElem?_eq_getElem hjl
  have hk := hK j x _ hj hr
  refine ⟨rows[j], k28.K_len hk, hk, fun i u hu => ?_⟩
  rw [add0]
  exact cell_at (heap_alloc_new w _) (hc j _ hr i u hu)
theorem C_new (w : World) (xs : List Int) (hm : xs.length ≤ 9223372036854775807) (cs : Array Value) (hcs : cs = (xs.map (Value.int .i64)).toArray) : Kd.C (Kd.int .i64) (w.alloc (.cells cs 3)) (some ⟨w.heap.size, 0, none⟩) xs.length xs := by
  subst hcs
  refine Kd.C_of_reads (d := (0 : Int)) ⟨rfl, hm, fun _ => ⟨_, rfl, fun j hj => ?_⟩⟩
  rw [add0]
  refine cell_at (heap_alloc_new w _) ?_
  simp [List.getD_eq_getElem?_getD, hj]
theorem seq_lit (W : World) (a b c d t : Int) (res : List S28) (h : seqR [a, b] [c, d] t = res) :
    Calls Try.prog 7 #[.slice (some ⟨W.heap.size, 0, none⟩) 2 2, .slice (some ⟨W.heap.size + 1, 0, none⟩) 2 2, .int .i64 t] ((W.alloc (.cells #[.int .i64 a, .int .i64 b] 3)).alloc (.cells #[.int .i64 c, .int .i64 d] 3)) fun e w' => ∃ A' c', e = .returned (.slice A' res.length c') ∧ Kd.C k28 w' A' res.length res ∧ Below W.heap.size W w' := by
  have h1 : Kd.C (Kd.int .i64) ((W.alloc (.cells #[.int .i64 a, .int .i64 b] 3)).alloc (.cells #[.int .i64 c, .int .i64 d] 3)) (some ⟨W.heap.size, 0, none⟩) [a, b].length [a, b] := Kd.C_alloc (C_new W [a, b] (by simp) _ rfl) _
  have h2 : Kd.C (Kd.int .i64) ((W.alloc (.cells #[.int .i64 a, .int .i64 b] 3)).alloc (.cells #[.int .i64 c, .int .i64 d] 3)) (some ⟨W.heap.size + 1, 0, none⟩) [c, d].length [c, d] := by
    have := C_new (W.alloc (.cells #[.int .i64 a, .int .i64 b] 3)) [c, d] (by simp) _ rfl
    simpa using this
  subst h
  refine (seq_any (some ⟨W.heap.size, 0, none⟩) 2 [a, b] (some ⟨W.heap.size + 1, 0, none⟩) 2 [c, d] t _ h1 (by simp) h2 (by simp) (by simp) (by simp)).mono ?_
  rintro e w' ⟨A', c', rfl, _, hC, hb⟩
  exact ⟨A', c', rfl, hC, (below_alloc (below_alloc (Below.refl _ _) _) _).trans (hb.mono (by simp; omega))⟩

def row28 (d : Int) (M : Option Addr) (c : Nat) : List Value := [.int .i64 4, .int .i64 0, .int .i64 d, .slice M 1 c, .int .i64 0, .int .i64 0, .int .i64 0, .bool false]
theorem row28_K (W : World) (d s : Int) (M : Option Addr) (c : Nat) (hc : 1 ≤ c) (hC : Kd.C (Kd.int .i64) W M 1 [s]) : k28.K W (cp 0 ⟨d, s⟩) (row28 d M c) := k28_mk W (cp 0 ⟨d, s⟩) (A3 := M) (c3 := c) hc hC
theorem lit3 (W : World) (x1 y1 x2 y2 x3 y3 : Int) (M1 M2 M3 : Option Addr) (c1 c2 c3 : Nat) (h1 : 1 ≤ c1) (h2 : 1 ≤ c2) (h3 : 1 ≤ c3) (C1 : Kd.C (Kd.int .i64) W M1 1 [y1]) (C2 : Kd.C (Kd.int .i64) W M2 1 [y2]) (C3 : Kd.C (Kd.int .i64) W M3 1 [y3]) :
    Kd.C k28 (W.alloc (.cells (row28 x1 M1 c1 ++ row28 x2 M2 c2 ++ row28 x3 M3 c3).toArray 28)) (some ⟨W.heap.size, 0, none⟩) 3 [cp 0 ⟨x1, y1⟩, cp 0 ⟨x2, y2⟩, cp 0 ⟨x3, y3⟩] := by
  refine C_lit W _ [row28 x1 M1 c1, row28 x2 M2 c2, row28 x3 M3 c3] [cp 0 ⟨x1, y1⟩, cp 0 ⟨x2, y2⟩, cp 0 ⟨x3, y3⟩] (by simp [row28]) ?_ rfl (by simp) ?_
  · intro j c hj i u hu
    rcases j with _ | _ | _ | j
    · simp at hj; subst hj; rcases i with _ | _ | _ | _ | _ | _ | _ | _ | i <;> first | exact hu | (simp [row28] at hu)
    · simp at hj; subst hj; rcases i with _ | _ | _ | _ | _ | _ | _ | _ | i <;> first | exact hu | (simp [row28] at hu)
    · simp at hj; subst hj; rcases i with _ | _ | _ | _ | _ | _ | _ | _ | i <;> first | exact hu | (simp [row28] at hu)
    · simp at hj
  · intro j x c hx hj
    rcases j with _ | _ | _ | j
    · simp at hx hj; subst hx; subst hj; exact row28_K _ _ _ _ _ h1 (Kd.C_alloc C1 _)
    · simp at hx hj; subst hx; subst hj; exact row28_K _ _ _ _ _ h2 (Kd.C_alloc C2 _)
    · simp at hx hj; subst hx; subst hj; exact row28_K _ _ _ _ _ h3 (Kd.C_alloc C3 _)
    · simp at hj
theorem lit2 (W : World) (x1 y1 x2 y2 : Int) (M1 M2 : Option Addr) (c1 c2 : Nat) (h1 : 1 ≤ c1) (h2 : 1 ≤ c2) (C1 : Kd.C (Kd.int .i64) W M1 1 [y1]) (C2 : Kd.C (Kd.int .i64) W M2 1 [y2]) :
    Kd.C k28 (W.alloc (.cells (row28 x1 M1 c1 ++ row28 x2 M2 c2).toArray 28)) (some ⟨W.heap.size, 0, none⟩) 2 [cp 0 ⟨x1, y1⟩, cp 0 ⟨x2, y2⟩] := by
  refine C_lit W _ [row28 x1 M1 c1, row28 x2 M2 c2] [cp 0 ⟨x1, y1⟩, cp 0 ⟨x2, y2⟩] (by simp [row28]) ?_ rfl (by simp) ?_
  · intro j c hj i u hu
    rcases j with _ | _ | j
    · simp at hj; subst hj; rcases i with _ | _ | _ | _ | _ | _ | _ | _ | i <;> first | exact hu | (simp [row28] at hu)
    · simp at hj; subst hj; rcases i with _ | _ | _ | _ | _ | _ | _ | _ | i <;> first | exact hu | (simp [row28] at hu)
    · simp at hj
  · intro j x c hx hj
    rcases j with _ | _ | j
    · simp at hx hj; subst hx; subst hj; exact row28_K _ _ _ _ _ h1 (Kd.C_alloc C1 _)
    · simp at hx hj; subst hx; subst hj; exact row28_K _ _ _ _ _ h2 (Kd.C_alloc C2 _)
    · simp at hj

set_option maxRecDepth 100000 in
set_option maxHeartbeats 1000000 in
theorem awake_any (w : World) : Calls Try.prog 5 #[] w fun e w' => e = .returned (.bool true) ∧ Below w.heap.size w w' := by
  go_enter Try.func5, Try.ntmps5
  go_wp2_with fail
  refine (seq_lit w 1 2 2 1 9 _ seqR_1).mono ?_
  rintro e w1 ⟨A1, c1, rfl, C1, B1⟩
  have H1 := Aside0.mk (And.intro C1 B1)
  clear C1 B1
  go_wp2_with fail
  refine (seq_lit w1 1 2 2 3 9 _ seqR_2).mono ?_
  rintro e w2 ⟨A2, c2, rfl, C2, B2⟩
  have H2 := Aside0.mk (And.intro (Kd.C_below H1.out.1 B2) (And.intro C2 (H1.out.2.trans (B2.mono H1.out.2.size))))
  clear C2 B2 H1
  go_wp2_with fail
  refine (move_any 9 1 w2).mono ?_
  rintro e w3 ⟨M1, d1, rfl, l1, D1, B3⟩
  have H3 := Aside0.mk (And.intro D1 (And.intro l1 B3))
  clear D1 l1 B3
  go_wp2_with fail
  refine (move_any 1 2 w3).mono ?_
  rintro e w4 ⟨M2, d2, rfl, l2, D2, B4⟩
  have H4 := Aside0.mk (And.intro D2 (And.intro l2 (And.intro (Kd.C_below H3.out.1 B4) (H3.out.2.2.trans (B4.mono H3.out.2.2.size)))))
  clear D2 l2 B4
  go_wp2_with fail
  refine (move_any 2 9 w4).mono ?_
  rintro e w5 ⟨M3, d3, rfl, l3, D3, B5⟩
  have H5 := Aside0.mk (And.intro D3 (And.intro l3 (And.intro (Kd.C_below H4.out.1 B5) (And.intro (Kd.C_below H4.out.2.2.1 B5) (H4.out.2.2.2.trans (B5.mono H4.out.2.2.2.size))))))
  clear D3 l3 B5
  go_wp2_with fail
  refine (eqf_any A1 c1 (some ⟨w5.heap.size, 0, none⟩) 3 [cp 0 ⟨9, 1⟩, cp 0 ⟨1, 2⟩, cp 0 ⟨2, 9⟩] _ (Kd.C_alloc (Kd.C_below H2.out.1 H5.out.2.2.2.2) _) (lit3 w5 9 1 1 2 2 9 M1 M2 M3 d1 d2 d3 H3.out.2.1 H4.out.2.1 H5.out.2.1 H5.out.2.2.2.1 H5.out.2.2.1 H5.out.1) (by simp) (by simp [cp])).mono ?_
  rintro e w6 ⟨rfl, B6⟩
  have b6 : Below w2.heap.size w2 w6 := (below_alloc H5.out.2.2.2.2 _).trans (B6.mono (by have := H5.out.2.2.2.2.size; simp; omega))
  have H6 := Aside0.mk (And.intro (Kd.C_below H2.out.2.1 b6) (H2.out.2.2.trans (b6.mono H2.out.2.2.size)))
  clear b6 B6 H2 H3 H4 H5
  go_wp2_with fail
  refine (move_any 1 2 w6).mono ?_
  rintro e w7 ⟨N1, f1, rfl, l1, D1, B7⟩
  have H7 := Aside0.mk (And.intro D1 (And.intro l1 B7))
  clear D1 l1 B7
  go_wp2_with fail
  refine (move_any 2 3 w7).mono ?_
  rintro e w8 ⟨N2, f2, rfl, l2, D2, B8⟩
  have H8 := Aside0.mk (And.intro D2 (And.intro l2 (And.intro (Kd.C_below H7.out.1 B8) (H7.out.2.2.trans (B8.mono H7.out.2.2.size)))))
  clear D2 l2 B8
  go_wp2_with fail
  refine (eqf_any A2 c2 (some ⟨w8.heap.size, 0, none⟩) 2 [cp 0 ⟨1, 2⟩, cp 0 ⟨2, 3⟩] _ (Kd.C_alloc (Kd.C_below H6.out.1 H8.out.2.2.2) _) (lit2 w8 1 2 2 3 N1 N2 f1 f2 H7.out.2.1 H8.out.2.1 H8.out.2.2.1 H8.out.1) (by simp) (by simp [cp])).mono ?_
  rintro e w9 ⟨rfl, B9⟩
  have b9 : Below w6.heap.size w6 w9 := (below_alloc H8.out.2.2.2 _).trans (B9.mono (by have := H8.out.2.2.2.size; simp; omega))
  have H9 := Aside0.mk (H6.out.2.trans (b9.mono H6.out.2.size))
  clear b9 B9 H6 H7 H8
  go_wp2_with fail
  refine (seq_lit w9 1 1 2 3 9 _ seqR_3).mono ?_
  rintro e wa ⟨A3, c3, rfl, C3, Ba⟩
  have Ha := Aside0.mk (H9.out.trans (Ba.mono H9.out.size))
  clear C3 Ba H9
  go_wp2
  go_ret
  exact ⟨rfl, Ha.out⟩
end Go.Proofs.Ytlmendmncfibfaa
