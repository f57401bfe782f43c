/- BitsetCopies: the walk. -/
import Derived.Test.YtibjpamnkhnagaaDoorSetM
set_option linter.unusedVariables false
set_option linter.unusedSimpArgs false
namespace Go.Proofs.YtibjpamnkhnagaaDoor
open Go.RowKit Go.Shelf Go.Proofs.YtibjpamnkhnagaaDoorW.PrintWords Mem Bit
attribute [local go_sem] Oper.semAt_some

section
variable {w0 W : World} {L : List St} {x y : St}
theorem Ss.add (h : Ss w0 W L) (i : Nat) (hx : L[i]? = some x) (k : Nat) (hk : k < x.bs.length) (b : Bool) (hb : x.bs.getD k false = b) :
    Calls Tryd.prog 12 #[.pointer (some ⟨x.p, 0, none⟩), .int .i64 k] W fun e w' => e = .returned (.bool (!b)) ∧ Ss w0 w' (L.set i { x with bs := x.bs.set k true }) := by
  refine (add_any _ _ _ k W (h.ps i hx)).mono ?_
  rintro e w' ⟨rfl, hP, hK⟩
  have e1 : addB (some x.bs) (k : Int) = !b := by
    unfold addB inO hasO
    simp only [Int.toNat_natCast, hb]
    cases b <;> simp [hk]
  have e2 : setO (some x.bs) (k : Int) true = some (x.bs.set k true) := by simp [setO]
  rw [e2] at hP
  exact ⟨by rw [e1], h.write i hx hK hP.un⟩
theorem Ss.remove (h : Ss w0 W L) (i : Nat) (hx : L[i]? = some x) (k : Nat) (b : Bool) (hb : x.bs.getD k false = b) :
    Calls Tryd.prog 13 #[.pointer (some ⟨x.p, 0, none⟩), .int .i64 k] W fun e w' => e = .returned (.bool b) ∧ Ss w0 w' (L.set i { x with bs := x.bs.set k false }) := by
  refine (remove_any _ _ _ k W (h.ps i hx)).mono ?_
  rintro e w' ⟨rfl, hP, hK⟩
  have e1 : hasO (some x.bs) (k : Int) = b := by
    unfold hasO
    simp only [Int.toNat_natCast, hb]
    simp
  have e2 : setO (some x.bs) (k : Int) false = some (x.bs.set k false) := by simp [setO]
  rw [e2] at hP
  exact ⟨by rw [e1], h.write i hx hK hP.un⟩
end

theorem frame_abs {P : Program} {code : Code} {Q : Exit → Act → World → Prop} {a : Act} {w : World} (h : ∀ a', a' = a → Code.wp P code Q a' w) : Code.wp P code Q a w := h a rfl
theorem Ss_of2 {w0 W : World} {L : List St} (h : Ss w0 W L) (n : Nat) (A : Option Addr) (c : Nat) (l : List Int) (hC : Kd.C (Kd.int .i64) W A l.length l) (hm : l.length ≤ 17592186044416) (hn : n ≤ 65536) :
    Calls Tryd.prog 8 #[.int .i64 n, .slice A l.length c] W fun e w' => ∃ p a b, e = .returned (.pointer (some ⟨p, 0, none⟩)) ∧ Ss w0 w' (L ++ [⟨a, b, p, setL n l⟩]) ∧ Below W.heap.size W w' ∧ W.heap.size ≤ a := by
  refine (of_any n A c l W hC hm).mono ?_
  rintro e w' ⟨v, rfl, hP, hK⟩
  rw [ofO_some n l hn] at hP
  obtain ⟨p, rfl, hB⟩ := hP.some_
  exact ⟨p, _, _, rfl, h.push hK.none_below hB, hK.none_below, Nat.le_refl _⟩
theorem elems_nil {S : List Bool} (h : elems S = []) (j : Nat) : S.getD j false = false := by
  by_cases hj : j < S.length
  · cases hb : S.getD j false with
    | false => rfl
    | true =>
      exfalso
      obtain ⟨l, hl⟩ := elemsTo_prefix S (j + 1) (S.length - (j + 1))
      have : j + 1 + (S.length - (j + 1)) = S.length := by omega
      rw [this] at hl
      unfold elems at h
      rw [h, elemsTo_succ, hb] at hl
      simp at hl
  · exact getD_past S j (by omega)
theorem elems_first {S : List Bool} {x : Int} {rest : List Int} (h : elems S = x :: rest) : ∃ m : Nat, x = m ∧ m < S.length ∧ S.getD m false = true ∧ ∀ j, j < m → S.getD j false = false := by
  have key : ∀ n, elemsTo S n = [] ∨ ∃ m : Nat, m < n ∧ (∃ l, elemsTo S n = (m : Int) :: l) ∧ S.getD m false = true ∧ ∀ j, j < m → S.getD j false = false := by
    intro n
    induction n with
    | zero => exact .inl rfl
    | succ n ih =>
      rcases ih with ih | ⟨m, h1, ⟨l, h2⟩, h3, h4⟩
      · cases hb : S.getD n false with
        | false => exact .inl (by rw [elemsTo_succ, ih, hb]; rfl)
        | true =>
          refine .inr ⟨n, by omega, ⟨[], by rw [elemsTo_succ, ih, hb]; rfl⟩, hb, fun j hj => ?_⟩
          cases hc : S.getD j false with
          | false => rfl
          | true =>
            exfalso
            obtain ⟨l, hl⟩ := elemsTo_prefix S (j + 1) (n - (j + 1))
            have : j + 1 + (n - (j + 1)) = n := by omega
            rw [this, ih, elemsTo_succ, hc] at hl
            simp at hl
      · exact .inr ⟨m, by omega, ⟨l ++ (if S.getD n false then [(n : Int)] else []), by rw [elemsTo_succ, h2]; rfl⟩, h3, h4⟩
  rcases key S.length with h0 | ⟨m, h1, ⟨l, h2⟩, h3, h4⟩
  · rw [show elemsTo S S.length = elems S from rfl, h] at h0
    cases h0
  · rw [show elemsTo S S.length = elems S from rfl, h] at h2
    injection h2 with e1 e2
    exact ⟨m, e1, h1, h3, h4⟩

theorem own_emptyI (W : World) (B e : Nat) (ok : Nat → Prop) (h : ok W.heap.size) : Kd.R (Kd.int .i64) e (W.alloc (.cells #[] e)) 0 ok (.slice (some ⟨W.heap.size, 0, none⟩) 0 0) [] := by
  refine ⟨fun k hk => ?_, [], World.ownsRow_made W #[] 0 (Nat.zero_le _) (Nat.zero_le _) rfl, Reps.none _ _⟩
  have : W.heap.size = k := by simpa [Value.ownBlock] using hk
  exact this ▸ h

set_option maxRecDepth 100000 in
theorem cop_early (n : Int) (A : Option Addr) (la ca : Nat) (i : Int) (w : World) (hD : DB w) (he : n < 1 ∨ 2000 < n ∨ (200 : Int) < la ∨ i < 0 ∨ n ≤ i) :
    Calls Tryd.prog 3 #[.int .i64 n, .slice A la ca, .int .i64 i] w fun e w' => e = .returned (.bool true) ∧ Below w.heap.size w w' := by
  have hD' := Aside0.mk hD
  clear hD
  by_cases h1 : n < 1
  · clear he
    go_enter Tryd.func3, Tryd.ntmps3
    go_wp2_with (go_at_call 7; refine (awake_any _ hD'.out).mono ?_; rintro e w1 ⟨rfl, hb1⟩)
    go_ret
    exact ⟨rfl, hb1⟩
  · have g1 : 1 ≤ n := by omega
    by_cases h2 : 2000 < n
    · clear he
      go_enter Tryd.func3, Tryd.ntmps3
      go_wp2_with (go_at_call 7; refine (awake_any _ hD'.out).mono ?_; rintro e w1 ⟨rfl, hb1⟩)
      go_ret
      exact ⟨rfl, hb1⟩
    · have g2 : n ≤ 2000 := by omega
      by_cases h3 : (200 : Int) < la
      · clear he
        go_enter Tryd.func3, Tryd.ntmps3
        go_wp2_with (go_at_call 7; refine (awake_any _ hD'.out).mono ?_; rintro e w1 ⟨rfl, hb1⟩)
        go_ret
        exact ⟨rfl, hb1⟩
      · have g3 : (la : Int) ≤ 200 := by omega
        by_cases h4 : i < 0
        · clear he
          go_enter Tryd.func3, Tryd.ntmps3
          go_wp2_with (go_at_call 7; refine (awake_any _ hD'.out).mono ?_; rintro e w1 ⟨rfl, hb1⟩)
          go_ret
          exact ⟨rfl, hb1⟩
        · have g4 : 0 ≤ i := by omega
          have h5 : n ≤ i := by omega
          clear he
          go_enter Tryd.func3, Tryd.ntmps3
          go_wp2_with (go_at_call 7; refine (awake_any _ hD'.out).mono ?_; rintro e w1 ⟨rfl, hb1⟩)
          go_ret
          exact ⟨rfl, hb1⟩

set_option maxRecDepth 100000 in
set_option maxHeartbeats 4000000 in
theorem cop_main (n : Nat) (A : Option Addr) (ca : Nat) (xa : List Int) (i : Nat) (w : World) (hD : DB w) (hn : n ≤ 2000) (ha : xa.length ≤ 200) (hi : i < n)
    (hCa : Kd.C (Kd.int .i64) w A xa.length xa) :
    Calls Tryd.prog 3 #[.int .i64 n, .slice A xa.length ca, .int .i64 i] w fun e w' => e = .returned (.bool true) ∧ Below w.heap.size w w' := by
  obtain ⟨S, hS⟩ : ∃ S, S = setL n xa := ⟨_, rfl⟩
  have hSl : S.length = n := by rw [hS]; exact setL_length _ _
  have d1 : decide ((n : Int) < 1) = false := by simp; omega
  have d2 : decide ((2000 : Int) < (n : Int)) = false := by simp; omega
  have d3 : decide ((200 : Int) < (xa.length : Int)) = false := by simp; omega
  have d4 : decide ((i : Int) < 0) = false := by simp
  have d5 : decide ((n : Int) ≤ (i : Int)) = false := by simp; omega
  have d6 : decide (n ≤ i) = false := by simp; omega
  have d7 : decide (2000 < n) = false := by simp; omega
  have d8 : decide (200 < xa.length) = false := by simp; omega
  have d9 : decide (n < 1) = false := by simp; omega
  have hni : (n : Int) ≤ 2000 := by omega
  have hal : (xa.length : Int) ≤ 200 := by omega
  have hii : (i : Int) ≤ 2000 := by omega
  have hX := Aside0.mk (And.intro hCa (And.intro hD (And.intro hS hSl)))
  clear hCa hD hS hSl
  refine (callsIn_wide (n := 4)).1 ?_
  refine callsIn_of_wp_marks Tryd.func3 rfl trivial ?_ rfl
  simp only [Tryd.ntmps3, List.size_toArray, List.length_cons, List.length_nil, Nat.reduceAdd, Nat.reduceSub, Array.replicate_succ, Array.replicate_zero, List.push_toArray, List.append_toArray, List.nil_append, List.cons_append]
  refine wpIn_wide.2 ?_
  go_wp2_with fail
  refine (awake_any w hX.out.2.1).mono ?_
  rintro e w1 ⟨rfl, B1⟩
  have H1 := Aside0.mk (And.intro B1 (Ss.start B1 hX.out.2.1))
  have hw1 := B1.size
  clear B1
  go_wp2_with (at_builtin; refine Kd.R_append_rows (Kd.int .i64) (Rr := fun x cs => cs = [.int .i64 x]) (w0 := w1.alloc (.cells #[] 3)) 0 (by rfl) (.tmp 39) (.tmp 40) 22 3 (.int .i64 0) 8 (by rfl) Tryd.underlying22 info3 rfl (by decide) (by decide) (.slice (some ⟨w1.heap.size, 0, none⟩) 0 0) [] xa A xa.length ca (fun k => w1.heap.size ≤ k) (fun _ => False) (by rfl) (by rfl) (own_emptyI w1 0 3 _ (Nat.le_refl _)) (Kd.C_alloc (Kd.C_below hX.out.1 H1.out.1) _) (fun _ _ h => h) (fun _ h => h.elim) (fun k hk => by simp at hk; omega) (Below.refl _ _) (Nat.zero_le _) (by simp; omega) ?_; intro v1 w2 hRA hBA hgA hatA; simp only [List.nil_append] at hRA; have H2 := Aside0.mk (And.intro hRA hgA); obtain ⟨A2, c2, rfl⟩ := Kd.R_slice hRA; clear hRA hBA hgA hatA)
  have B12 : Below w1.heap.size w1 w2 := by
    refine (((Kp.refl (fun k => w1.heap.size ≤ k) w1).alloc _).grown H2.out.2 (fun k hk => .inl ?_)).below (fun _ h => h)
    have e5 : w1.heap.size = k := by simpa [Value.ownBlock] using hk
    exact Nat.le_of_eq e5
  have H2' := Aside0.mk (And.intro H2.out.1 (And.intro (H1.out.2.step B12) B12.size))
  clear H1 H2 B12
  go_wp2_with fail
  refine (Ss_of2 H2'.out.2.1 n A2 c2 xa (R_readC H2'.out.1).2.2 (by omega) (by omega)).mono ?_
  rintro e w3 ⟨p0, a0, b0, rfl, H, Bx, hle⟩
  rw [← hX.out.2.2.1] at H
  have hg : ∀ k, k < xa.length → ∃ g, A2 = some ⟨g, 0, none⟩ ∧ g < w2.heap.size := fun k hk => by
    obtain ⟨g, cap, e, _, hlt, _⟩ := Kd.R_form H2'.out.1 (by omega)
    injection e with e1 e2 e3
    exact ⟨g, e1, hlt⟩
  have H3 : Aside0 ((∃ ys, ys.length = xa.length ∧ Kd.R (Kd.int .i64) 3 w3 0 (fun k => w1.heap.size ≤ k) (.slice A2 xa.length c2) ys) ∧ Ss w w3 [⟨a0, b0, p0, S⟩]) := ⟨⟨xa, rfl, Kd.R_below H2'.out.1 Bx⟩, H⟩
  have hg' := Aside0.mk hg
  have hle' := Aside0.mk hle
  clear H Bx hle hg H2'
  go_wp2
  go_loopw [47] (fun c wr => ∃ k : Nat, k ≤ xa.length ∧ c = .int .i64 k ∧ Aside0 ((∃ ys, ys.length = xa.length ∧ Kd.R (Kd.int .i64) 3 wr 0 (fun k => w1.heap.size ≤ k) (.slice A2 xa.length c2) ys) ∧ Ss w wr [⟨a0, b0, p0, S⟩])) (fun c _ => xa.length - (intOf c).toNat)
  case atStart => exact ⟨0, Nat.zero_le _, rfl, H3⟩
  case round =>
    obtain ⟨k, hk, rfl, hI⟩ := hrel
    by_cases hlt : k < xa.length
    · obtain ⟨g, rfl, hgl⟩ := hg'.out k hlt
      have hI' : Aside0 ((∃ ys, ys.length = xa.length ∧ Kd.R (Kd.int .i64) 3 (wr.setCell ⟨g, k, none⟩ (.int .i64 i)) 0 (fun k => w1.heap.size ≤ k) (.slice (some ⟨g, 0, none⟩) xa.length c2) ys) ∧ Ss w (wr.setCell ⟨g, k, none⟩ (.int .i64 i)) [⟨a0, b0, p0, S⟩]) := by
        obtain ⟨⟨ys, hy, hR⟩, hS⟩ := hI.out
        refine ⟨⟨ys.set k i, by simpa using hy, ?_⟩, ?_⟩
        · have h5 := Kd.R_putn hR (k : Int) i
          rwa [Int.toNat_natCast] at h5
        · refine ⟨fun j x hx => ?_, hS.apart, ?_, hS.db⟩
          · obtain ⟨h1, h2, h3⟩ := hS.each j x hx
            have hx0 : x = ⟨a0, b0, p0, S⟩ := by
              rcases j with _ | j
              · simp at hx; exact hx.symm
              · simp at hx
            have h6 := hle'.out
            refine ⟨h1, by simpa using h2, h3.step (fun b hb _ => Below.heap_setCell wr _ _ b (fun e => ?_))⟩
            have h7 := hb.1
            rw [hx0] at h7
            have h8 : a0 ≤ b := h7
            have h9 : b = g := e
            omega
          · refine hS.below.setCell ?_ _
            have h5 : w1.heap.size ≤ g := hR.1 g rfl
            show w.heap.size ≤ g
            omega
      have hc0 : ∃ y : Int, wr.cell? ⟨g, k, none⟩ = some (.int .i64 y) ∧ wr.frozen? ⟨g, k, none⟩ = false := by
        obtain ⟨⟨ys, hy, hR⟩, hS⟩ := hI.out
        have h5 := Kd.R_celln 0 hR (k : Int) (by omega) (by omega)
        rw [Int.toNat_natCast] at h5
        exact ⟨_, h5⟩
      obtain ⟨y, hc0, hc1⟩ := hc0
      clear hgl
      go_wp2
      go_roundw
      case rel => exact ⟨k + 1, by omega, by go_num, hI'⟩
      case measure => simp [intOf]; omega
    · have H4 := Aside0.mk hI.out.2
      clear hI hg' hle'
      have hke : k = xa.length := by omega
      clear hlt
      go_wp2_with fail
      refine (H4.out.clone 0 rfl).mono ?_
      rintro e w5 ⟨p1, a1, b1, rfl, H, _⟩
      have H5 : Aside0 (Ss w w5 [⟨a0, b0, p0, S⟩, ⟨a1, b1, p1, S⟩]) := ⟨H⟩
      clear H H4
      go_wp2_with fail
      refine (H5.out.equal 0 1 rfl rfl true (by simp)).mono ?_
      rintro e w6 ⟨rfl, H⟩
      have H6 := Aside0.mk H
      clear H H5
      have hSi : i < S.length := by rw [hX.out.2.2.2]; exact hi
      obtain ⟨b, hb⟩ : ∃ b, S.getD i false = b := ⟨_, rfl⟩
      have hb' := Aside0.mk hb
      clear hb
      go_wp2_with fail
      refine (H6.out.has 0 rfl i hSi b hb'.out).mono ?_
      rintro e w' ⟨rfl, rfl⟩
      go_wp2_with fail
      refine (Ss.add H6.out 1 rfl i hSi b hb'.out).mono ?_
      rintro e w7 ⟨rfl, H⟩
      have H7 : Aside0 (Ss w w7 [⟨a0, b0, p0, S⟩, ⟨a1, b1, p1, S.set i true⟩]) := ⟨H⟩
      clear H H6
      have hT1 : (S.set i (!b)).getD i false = !b := by rw [set_getD S i i _ hSi, if_pos rfl]
      have hT2 : decide (S = S.set i (!b)) = false := by
        refine decide_eq_false (fun e => ?_)
        have h1 := hT1
        rw [← e, hb'.out] at h1
        cases b <;> cases h1
      have hT := Aside0.mk (And.intro hT1 (And.intro hT2 (And.intro hSi hb'.out)))
      clear hT1 hT2 hSi hb'
      have H8 : Aside0 (∀ w8 : World, Ss w w8 [⟨a0, b0, p0, S⟩, ⟨a1, b1, p1, S.set i (!b)⟩] → True) := ⟨fun _ _ => trivial⟩
      clear H8
      have hnf := func_nil
      cases b
      · have H8 : Aside0 (Ss w w7 [⟨a0, b0, p0, S⟩, ⟨a1, b1, p1, S.set i (!false)⟩]) := H7
        clear H7
        go_wp2_with fail
        refine (H8.out.has 0 rfl i hT.out.2.2.1 false hT.out.2.2.2).mono ?_
        rintro e w' ⟨rfl, rfl⟩
        go_wp2_with fail
        refine (H8.out.has 1 rfl i (by simpa using hT.out.2.2.1) true hT.out.1).mono ?_
        rintro e w' ⟨rfl, rfl⟩
        go_wp2_with fail
        refine (H8.out.equal 0 1 rfl rfl false hT.out.2.1).mono ?_
        rintro e w9 ⟨rfl, H⟩
        have H9 := Aside0.mk H
        clear H H8
        go_wp2_with fail
        refine ((callsIn_wide (n := 1)).1 (all_calls 1 (some ⟨p0, 0, none⟩) w9)).mono ?_
        rintro e w' ⟨rfl, rfl⟩
        go_wp2
        have bF := Boxed.new (w9.alloc (.cells #[.pointer (some ⟨p0, 0, none⟩)] 24)) 3 (.int .i64 (-1))
        have bA := Boxed.new w9 24 (.pointer (some ⟨p0, 0, none⟩))
        rw [World.size_alloc] at bF
        have HW0 := H9.out.alloc (.cells #[.pointer (some ⟨p0, 0, none⟩)] 24)
        obtain ⟨Wb, hWb⟩ : ∃ Wb, w9.alloc (.cells #[.pointer (some ⟨p0, 0, none⟩)] 24) = Wb := ⟨_, rfl⟩
        have hbs : Wb.heap.size = w9.heap.size + 1 := by rw [← hWb]; simp
        rw [hWb] at bF bA HW0 ⊢
        have hHb := Aside0.mk HW0
        clear hWb HW0
        refine frame_abs ?_
        intro a' ha'
        have h1 : 1 ≤ 4 := by omega
        have hB0 : Below Wb.heap.size Wb (Wb.alloc (.cells #[.int .i64 (-1)] 3)) := below_alloc (Below.refl _ _) _
        refine (wpIn_wide (n := 4)).1 ?_
        refine wpIn_rangeFunc_ownG rfl h1 (gf := 36) (lb := #[.pointer (some ⟨w9.heap.size, 0, none⟩)]) (by rw [ha']; rfl) trivial (enters_of Tryd.func36 (by kernel_rfl) rfl)
          (all_stops (4 - 1) (by omega) w9.heap.size Wb.heap.size (some ⟨p0, 0, none⟩) (some S) (Wb.alloc (.cells #[.int .i64 (-1)] 3)) (by simp; omega) (by omega) (by simp) ((hB0.cell (p := ⟨w9.heap.size, 0, none⟩) (by show w9.heap.size < Wb.heap.size; omega)).trans bA.cell) ((hHb.out.psW 0 rfl).alloc _) (hHb.out.dbW.below hB0)) belowK_t (belowK_b (by simp)) (Below.refl _ _) (fun _ => rfl)
          (fun pre W => (pre = [] ∧ Boxed W (w9.heap.size + 1) 3 (.int .i64 (-1))) ∧ Below Wb.heap.size Wb W)
          (fun c pre W => (∃ x : Int, c = .exit 2 ∧ pre = [x] ∧ Boxed W (w9.heap.size + 1) 3 (.int .i64 x)) ∧ Below Wb.heap.size Wb W)
          (OwnFrom.and (Own.from (own_and (fun s A B row hs hg hr => hs) (boxed_own (w9.heap.size + 1) 3 (fun _ => .int .i64 (-1)))) _) (ownFrom_below (Nat.le_refl _) (by simp)))
          (fun c => OwnFrom.and (Own.from (fun s A B row hs hg hr => by obtain ⟨x, e1, e2, e3⟩ := hs; exact ⟨x, e1, e2, boxed_own (w9.heap.size + 1) 3 (fun _ : Unit => .int .i64 x) () A B row e3 hg hr⟩) _) (ownFrom_below (Nat.le_refl _) (by simp)))
          ⟨⟨rfl, bF⟩, hB0⟩
          (fun x => { tmps := (a'.tmps.setIfInBounds 106 (.int .i64 x)).setIfInBounds 15 (.int .i64 x), defers := [] }) ?assign ?body ?done ?stop
        case assign =>
          intro l x W K hK
          subst ha'
          simp at hK
          gi_wp2
          simpa using hK
        case body =>
          rintro l pre x W ⟨⟨rfl, hb⟩, hB⟩ hlt
          have hc := hb.cell
          have hf := hb.frozen
          have hX5 := Aside0.mk (And.intro hb hB)
          clear hb hB
          subst ha'
          simp
          gi_wp2
          exact ⟨(KeepsOthers.setCell _ _ _).from _, ⟨rfl, x, rfl, hX5.out.1.set _⟩, hX5.out.2.setCell (p := ⟨w9.heap.size + 1, 0, none⟩) (by show Wb.heap.size ≤ w9.heap.size + 1; omega) _⟩
        case done =>
          rintro D ys W hD rfl ⟨⟨he, hb⟩, hB⟩ hK
          have hc := hb.cell
          have hEn := Aside0.mk (fun j => elems_nil he j)
          have HW := Aside0.mk (And.intro (hHb.out.step hB) (And.intro hK hD))
          clear he hb hB hK hD
          subst ha'
          go_wp2
          go_loop [16] (fun v => ∃ k : Nat, k ≤ n ∧ v = .int .i64 k) (fun v => n - (intOf v).toNat)
          case atStart => exact ⟨0, Nat.zero_le _, rfl⟩
          case round =>
            obtain ⟨j, hj, rfl⟩ := hrel
            by_cases hjn : j < n
            · have hjS : j < S.length := by rw [hX.out.2.2.2]; exact hjn
              have hji : (j : Int) ≤ 2000 := by omega
              go_wp2_with (go_at_call 11; refine (HW.out.1.has 0 rfl j hjS false (hEn.out j)).mono ?_; rintro e w' ⟨rfl, rfl⟩)
              go_round
              case rel => exact ⟨j + 1, by omega, by go_num⟩
              case measure => simp [intOf]; omega
            · go_wp2
              refine ⟨by simp, .inl ⟨_, _, rfl, run_takeDeferred HW.out.2.1, ?_⟩⟩
              exact ⟨_, results_tmp rfl _ _ _, rfl, HW.out.1.below.trans (belowK_b (w := w) (Nat.le_refl _) W D _ _ (by have := HW.out.2.2; have := HW.out.1.below.size; have := hHb.out.below.size; simp at *; omega) HW.out.2.1 rfl rfl)⟩
        case stop =>
          rintro D c pre W hD ⟨rest, hpre⟩ ⟨⟨x, rfl, rfl, hb⟩, hB⟩ hK
          obtain ⟨m, rfl, hmS, hm1, hm2⟩ := elems_first (S := S) hpre
          have hc := hb.cell
          have hEn := Aside0.mk (And.intro hm1 hm2)
          have HW := Aside0.mk (And.intro (hHb.out.step hB) (And.intro hK hD))
          have hmn : m < n := by rw [← hX.out.2.2.2]; exact hmS
          clear hpre hb hB hK hD hm1 hm2
          subst ha'
          refine wpIn_wide.2 ?_
          go_wp2
          go_loop [16] (fun v => ∃ k : Nat, k ≤ m ∧ v = .int .i64 k) (fun v => n - (intOf v).toNat)
          case atStart => exact ⟨0, Nat.zero_le _, rfl⟩
          case round =>
            obtain ⟨j, hj, rfl⟩ := hrel
            have hjn : j < n := by omega
            have hjS : j < S.length := by rw [hX.out.2.2.2]; exact hjn
            have hji : (j : Int) ≤ 2000 := by omega
            by_cases hjm : j < m
            · go_wp2_with (go_at_call 11; refine (HW.out.1.has 0 rfl j hjS false (hEn.out.2 j hjm)).mono ?_; rintro e w' ⟨rfl, rfl⟩)
              go_round
              case rel => exact ⟨j + 1, by omega, by go_num⟩
              case measure => simp [intOf]; omega
            · obtain rfl : j = m := by omega
              go_wp2_with (go_at_call 11; refine (HW.out.1.has 0 rfl j hjS true hEn.out.1).mono ?_; rintro e w' ⟨rfl, rfl⟩)
              refine ⟨by simp, .inl ⟨_, _, rfl, run_takeDeferred HW.out.2.1, ?_⟩⟩
              exact ⟨_, results_tmp rfl _ _ _, rfl, HW.out.1.below.trans (belowK_b (w := w) (Nat.le_refl _) W D _ _ (by have := HW.out.2.2; have := HW.out.1.below.size; have := hHb.out.below.size; simp at *; omega) HW.out.2.1 rfl rfl)⟩
      · go_wp2_with fail
        refine (Ss.remove H7.out 1 rfl i true (by rw [set_getD S i i _ hT.out.2.2.1, if_pos rfl])).mono ?_
        rintro e w8 ⟨rfl, H⟩
        have H8 : Aside0 (Ss w w8 [⟨a0, b0, p0, S⟩, ⟨a1, b1, p1, S.set i (!true)⟩]) := ⟨by
          have h3 : [(⟨a0, b0, p0, S⟩ : St), ⟨a1, b1, p1, (S.set i true).set i false⟩] = [⟨a0, b0, p0, S⟩, ⟨a1, b1, p1, S.set i (!true)⟩] := by rw [List.set_set]; rfl
          exact h3 ▸ H⟩
        clear H H7
        go_wp2_with fail
        refine (H8.out.has 0 rfl i hT.out.2.2.1 true hT.out.2.2.2).mono ?_
        rintro e w' ⟨rfl, rfl⟩
        go_wp2_with fail
        refine (H8.out.has 1 rfl i (by simpa using hT.out.2.2.1) false hT.out.1).mono ?_
        rintro e w' ⟨rfl, rfl⟩
        go_wp2_with fail
        refine (H8.out.equal 0 1 rfl rfl false hT.out.2.1).mono ?_
        rintro e w9 ⟨rfl, H⟩
        have H9 := Aside0.mk H
        clear H H8
        go_wp2_with fail
        refine ((callsIn_wide (n := 1)).1 (all_calls 1 (some ⟨p0, 0, none⟩) w9)).mono ?_
        rintro e w' ⟨rfl, rfl⟩
        go_wp2
        have bF := Boxed.new (w9.alloc (.cells #[.pointer (some ⟨p0, 0, none⟩)] 24)) 3 (.int .i64 (-1))
        have bA := Boxed.new w9 24 (.pointer (some ⟨p0, 0, none⟩))
        rw [World.size_alloc] at bF
        have HW0 := H9.out.alloc (.cells #[.pointer (some ⟨p0, 0, none⟩)] 24)
        obtain ⟨Wb, hWb⟩ : ∃ Wb, w9.alloc (.cells #[.pointer (some ⟨p0, 0, none⟩)] 24) = Wb := ⟨_, rfl⟩
        have hbs : Wb.heap.size = w9.heap.size + 1 := by rw [← hWb]; simp
        rw [hWb] at bF bA HW0 ⊢
        have hHb := Aside0.mk HW0
        clear hWb HW0
        refine frame_abs ?_
        intro a' ha'
        have h1 : 1 ≤ 4 := by omega
        have hB0 : Below Wb.heap.size Wb (Wb.alloc (.cells #[.int .i64 (-1)] 3)) := below_alloc (Below.refl _ _) _
        refine (wpIn_wide (n := 4)).1 ?_
        refine wpIn_rangeFunc_ownG rfl h1 (gf := 36) (lb := #[.pointer (some ⟨w9.heap.size, 0, none⟩)]) (by rw [ha']; rfl) trivial (enters_of Tryd.func36 (by kernel_rfl) rfl)
          (all_stops (4 - 1) (by omega) w9.heap.size Wb.heap.size (some ⟨p0, 0, none⟩) (some S) (Wb.alloc (.cells #[.int .i64 (-1)] 3)) (by simp; omega) (by omega) (by simp) ((hB0.cell (p := ⟨w9.heap.size, 0, none⟩) (by show w9.heap.size < Wb.heap.size; omega)).trans bA.cell) ((hHb.out.psW 0 rfl).alloc _) (hHb.out.dbW.below hB0)) belowK_t (belowK_b (by simp)) (Below.refl _ _) (fun _ => rfl)
          (fun pre W => (pre = [] ∧ Boxed W (w9.heap.size + 1) 3 (.int .i64 (-1))) ∧ Below Wb.heap.size Wb W)
          (fun c pre W => (∃ x : Int, c = .exit 2 ∧ pre = [x] ∧ Boxed W (w9.heap.size + 1) 3 (.int .i64 x)) ∧ Below Wb.heap.size Wb W)
          (OwnFrom.and (Own.from (own_and (fun s A B row hs hg hr => hs) (boxed_own (w9.heap.size + 1) 3 (fun _ => .int .i64 (-1)))) _) (ownFrom_below (Nat.le_refl _) (by simp)))
          (fun c => OwnFrom.and (Own.from (fun s A B row hs hg hr => by obtain ⟨x, e1, e2, e3⟩ := hs; exact ⟨x, e1, e2, boxed_own (w9.heap.size + 1) 3 (fun _ : Unit => .int .i64 x) () A B row e3 hg hr⟩) _) (ownFrom_below (Nat.le_refl _) (by simp)))
          ⟨⟨rfl, bF⟩, hB0⟩
          (fun x => { tmps := (a'.tmps.setIfInBounds 106 (.int .i64 x)).setIfInBounds 15 (.int .i64 x), defers := [] }) ?assign ?body ?done ?stop
        case assign =>
          intro l x W K hK
          subst ha'
          simp at hK
          gi_wp2
          simpa using hK
        case body =>
          rintro l pre x W ⟨⟨rfl, hb⟩, hB⟩ hlt
          have hc := hb.cell
          have hf := hb.frozen
          have hX5 := Aside0.mk (And.intro hb hB)
          clear hb hB
          subst ha'
          simp
          gi_wp2
          exact ⟨(KeepsOthers.setCell _ _ _).from _, ⟨rfl, x, rfl, hX5.out.1.set _⟩, hX5.out.2.setCell (p := ⟨w9.heap.size + 1, 0, none⟩) (by show Wb.heap.size ≤ w9.heap.size + 1; omega) _⟩
        case done =>
          rintro D ys W hD rfl ⟨⟨he, hb⟩, hB⟩ hK
          have hc := hb.cell
          have hEn := Aside0.mk (fun j => elems_nil he j)
          have HW := Aside0.mk (And.intro (hHb.out.step hB) (And.intro hK hD))
          clear he hb hB hK hD
          subst ha'
          go_wp2
          go_loop [16] (fun v => ∃ k : Nat, k ≤ n ∧ v = .int .i64 k) (fun v => n - (intOf v).toNat)
          case atStart => exact ⟨0, Nat.zero_le _, rfl⟩
          case round =>
            obtain ⟨j, hj, rfl⟩ := hrel
            by_cases hjn : j < n
            · have hjS : j < S.length := by rw [hX.out.2.2.2]; exact hjn
              have hji : (j : Int) ≤ 2000 := by omega
              go_wp2_with (go_at_call 11; refine (HW.out.1.has 0 rfl j hjS false (hEn.out j)).mono ?_; rintro e w' ⟨rfl, rfl⟩)
              go_round
              case rel => exact ⟨j + 1, by omega, by go_num⟩
              case measure => simp [intOf]; omega
            · go_wp2
              refine ⟨by simp, .inl ⟨_, _, rfl, run_takeDeferred HW.out.2.1, ?_⟩⟩
              exact ⟨_, results_tmp rfl _ _ _, rfl, HW.out.1.below.trans (belowK_b (w := w) (Nat.le_refl _) W D _ _ (by have := HW.out.2.2; have := HW.out.1.below.size; have := hHb.out.below.size; simp at *; omega) HW.out.2.1 rfl rfl)⟩
        case stop =>
          rintro D c pre W hD ⟨rest, hpre⟩ ⟨⟨x, rfl, rfl, hb⟩, hB⟩ hK
          obtain ⟨m, rfl, hmS, hm1, hm2⟩ := elems_first (S := S) hpre
          have hc := hb.cell
          have hEn := Aside0.mk (And.intro hm1 hm2)
          have HW := Aside0.mk (And.intro (hHb.out.step hB) (And.intro hK hD))
          have hmn : m < n := by rw [← hX.out.2.2.2]; exact hmS
          clear hpre hb hB hK hD hm1 hm2
          subst ha'
          refine wpIn_wide.2 ?_
          go_wp2
          go_loop [16] (fun v => ∃ k : Nat, k ≤ m ∧ v = .int .i64 k) (fun v => n - (intOf v).toNat)
          case atStart => exact ⟨0, Nat.zero_le _, rfl⟩
          case round =>
            obtain ⟨j, hj, rfl⟩ := hrel
            have hjn : j < n := by omega
            have hjS : j < S.length := by rw [hX.out.2.2.2]; exact hjn
            have hji : (j : Int) ≤ 2000 := by omega
            by_cases hjm : j < m
            · go_wp2_with (go_at_call 11; refine (HW.out.1.has 0 rfl j hjS false (hEn.out.2 j hjm)).mono ?_; rintro e w' ⟨rfl, rfl⟩)
              go_round
              case rel => exact ⟨j + 1, by omega, by go_num⟩
              case measure => simp [intOf]; omega
            · obtain rfl : j = m := by omega
              go_wp2_with (go_at_call 11; refine (HW.out.1.has 0 rfl j hjS true hEn.out.1).mono ?_; rintro e w' ⟨rfl, rfl⟩)
              refine ⟨by simp, .inl ⟨_, _, rfl, run_takeDeferred HW.out.2.1, ?_⟩⟩
              exact ⟨_, results_tmp rfl _ _ _, rfl, HW.out.1.below.trans (belowK_b (w := w) (Nat.le_refl _) W D _ _ (by have := HW.out.2.2; have := HW.out.1.below.size; have := hHb.out.below.size; simp at *; omega) HW.out.2.1 rfl rfl)⟩

theorem cop_walk (n : Int) (A : Option Addr) (ca : Nat) (xa : List Int) (i : Int) (w : World) (wn : (Lit.int .i64 n).wf = true) (ha : xa.length ≤ ca) (hCa : Kd.C (Kd.int .i64) w A xa.length xa) (ga : xa.length * 8 ≤ 140737488351232 ∧ ∀ x ∈ xa, (Lit.int .i64 x).wf = true) (wi : (Lit.int .i64 i).wf = true) (hD : DB w) :
    Calls Tryd.prog 3 #[.int .i64 n, .slice A xa.length ca, .int .i64 i] w fun e w' => e = .returned (.bool true) ∧ Below w.heap.size w w' := by
  by_cases he : n < 1 ∨ 2000 < n ∨ (200 : Int) < xa.length ∨ i < 0 ∨ n ≤ i
  · exact cop_early n A _ ca i w hD he
  · obtain ⟨m, rfl⟩ := Int.eq_ofNat_of_zero_le (show 0 ≤ n by omega)
    obtain ⟨j, rfl⟩ := Int.eq_ofNat_of_zero_le (show 0 ≤ i by omega)
    exact cop_main m A ca xa j w hD (by omega) (by omega) (by omega) hCa
end Go.Proofs.YtibjpamnkhnagaaDoor
