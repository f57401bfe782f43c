import Derived.WalkKit
import Derived.Test.YtbphjbfnnhfhlaaMPos7
section
/- The printed function slices_Reverse_int_int. -/
namespace Go.Proofs.Ytbphjbfnnhfhlaa.PDigraphTells
open Go.RowKit Go.Proofs.YtbphjbfnnhfhlaaW.PrintWords Go.Proofs.YtbphjbfnnhfhlaaW.PrintLast Go.Proofs.YtbphjbfnnhfhlaaW.PrintMore
attribute [local go_sem] max2_int min2_int max_two min_two max_three min_three max_four min_four   -- for this text's walks alone
set_option linter.unusedVariables false
set_option linter.unusedSimpArgs false

/-! ### slices_Reverse_int_int: function 46 -/
def slices_Reverse_int_int.l0 : Nat → List Int → Int → Int → Option (List Int)
  | 0, _, _, _ => none
  | k + 1, x0, x2, x3 => if x2 < x3 then (if 0 ≤ x3 then (if x3 < (x0.length : Int) then (if 0 ≤ x2 then (if x2 < (x0.length : Int) then (slices_Reverse_int_int.l0 k ((x0.set (x2 : Int).toNat (rd x0 x3)).set (x3 : Int).toNat (rd x0 x2)) (wrap64 (x2 + 1)) (wrap64 (x3 - 1))) else (none)) else (none)) else (none)) else (none)) else (some x0)
def slices_Reverse_int_int.f (k : Nat) (l0 : List Int) : Option (List Int) := slices_Reverse_int_int.l0 k l0 0 (wrap64 ((l0.length : Int) - 1))
theorem slices_Reverse_int_int.mono_l : ∀ k, (∀ y0 y1 y2, LeO (slices_Reverse_int_int.l0 k y0 y1 y2) (slices_Reverse_int_int.l0 (k + 1) y0 y1 y2))
  | 0 => fun _ _ _ r h => by simp [slices_Reverse_int_int.l0] at h
  | k + 1 => by
    have ih0 := slices_Reverse_int_int.mono_l k
    · intro y0 y1 y2
      unfold slices_Reverse_int_int.l0
      repeat' first
      | (with_reducible exact ih0 _ _ _)
      | (with_reducible exact LeO.refl _)
      | (with_reducible exact LeO.none _)
      | (with_reducible refine LeO.ite ?_ ?_)
      | (with_reducible refine LeO.bind ?_ (fun _ => ?_))
      | exact ih0 _ _ _
      | exact LeO.none _
      | refine LeO.ite ?_ ?_
      | refine LeO.bind ?_ (fun _ => ?_)
theorem slices_Reverse_int_int.mono : ∀ a0 k, LeO (slices_Reverse_int_int.f k a0) (slices_Reverse_int_int.f (k + 1) a0) := by
  intro a0 k
  have ih0 := slices_Reverse_int_int.mono_l k
  unfold slices_Reverse_int_int.f
  repeat' first
      | (with_reducible exact ih0 _ _ _)
      | (with_reducible exact LeO.refl _)
      | (with_reducible exact LeO.none _)
      | (with_reducible refine LeO.ite ?_ ?_)
      | (with_reducible refine LeO.bind ?_ (fun _ => ?_))
      | exact ih0 _ _ _
      | exact LeO.none _
      | refine LeO.ite ?_ ?_
      | refine LeO.bind ?_ (fun _ => ?_)
def slices_Reverse_int_int.T3 : Bool × List (List Nat × List Nat) := (true, [([], []), ([], []), ([], []), ([], []), ([], []), ([], []), ([4, 5], [4, 5]), ([6], [6]), ([], []), ([], []), ([8, 9], [8, 9]), ([10], [10]), ([0, 1, 0, 1, 4, 5, 6, 7, 11], [0, 1]), ([12, 7, 0, 1, 4, 5, 6, 7, 11], [7, 12]), ([2, 3, 0, 1, 2, 3, 4, 5, 6, 7, 8, 9, 10, 11, 12, 13], [2, 3]), ([14, 11, 13, 0, 1, 2, 3, 4, 5, 6, 7, 8, 9, 10, 11, 12, 13], [11, 14])])
def slices_Reverse_int_int.B3 : List Nat := [0, 0, 0, 0, 0, 0, 48, 112, 0, 0, 768, 1792, 4083, 8179, 16383, 32767]
theorem slices_Reverse_int_int.tab3 : rtab .any (opsOf Try.f46 3) = slices_Reverse_int_int.T3 := by kernel_rfl
theorem slices_Reverse_int_int.bits3 : waitsOk slices_Reverse_int_int.T3.2 slices_Reverse_int_int.B3 = true := by kernel_rfl
set_option maxHeartbeats 8000000 in
set_option maxRecDepth 100000 in
theorem slices_Reverse_int_int.calls (k : Nat) (P0_ : Nat → Prop) (u9000_ : Value) (l0 : List Int) (r : List Int) (w0 w : World) (hB : Below w0.heap.size w0 w) (ho0 : Kd.R (Kd.int .i64) 3 w w0.heap.size P0_ u9000_ l0) (h : slices_Reverse_int_int.f k l0 = some r) :
    Calls Try.prog 46 #[u9000_] w fun e w' => e = .returned (.tuple #[]) ∧ Kd.R (Kd.int .i64) 3 w' w0.heap.size (fun k_ => (P0_ k_ ∨ w.heap.size ≤ k_)) u9000_ r ∧ Below w0.heap.size w0 w' ∧ Kept w w' (fun k_ => P0_ k_) := by
  have HO0 := Aside0.mk (show Kd.R (Kd.int .i64) 3 w w0.heap.size (fun k_ => (P0_ k_ ∨ w.heap.size ≤ k_)) u9000_ l0 from Kd.R_mono ho0 (fun k_ hk => (.inl hk)))
  have HK := Aside0.mk (Kept.refl w (fun k_ => P0_ k_))
  have HW0 := Aside0.mk hB.size
  have HB := Aside0.mk hB
  clear hB
  have H : (slices_Reverse_int_int.l0 k l0 0 (wrap64 ((l0.length : Int) - 1))) = some r := h
  clear h
  have H' := Aside0.mk H
  clear H
  obtain ⟨Ao2, co2, eo2⟩ := Kd.R_slice HO0.out
  subst eo2
  go_enter Try.func46, Try.ntmps46
  go_wp2
  go_loopg [2, 3] k (fun kq v2 v3 w' => ∃ (x0_1 : List Int) (x2_1 : Int) (x3_1 : Int), v2 = .int .i64 x2_1 ∧ v3 = .int .i64 x3_1 ∧ Aside0 (slices_Reverse_int_int.l0 kq x0_1 x2_1 x3_1 = some r) ∧ Aside0 (kq ≤ k) ∧ Aside0 (Kd.R (Kd.int .i64) 3 w' w0.heap.size (fun k_ => (P0_ k_ ∨ w.heap.size ≤ k_)) (.slice Ao2 l0.length co2) x0_1) ∧ Aside0 (Kept w w' (fun k_ => P0_ k_)) ∧ Aside0 (Below w0.heap.size w0 w'))
  case atStart => exact ⟨(l0), (0), (wrap64 ((l0.length : Int) - 1)), (by first | rfl | (simp; done) | (simp [*]; done)), (by first | rfl | (simp; done) | (simp [*]; done)), H', ⟨Nat.le_refl _⟩, ⟨by (with_reducible repeat (first | apply Kd.R_alloc | apply Kd.R_drewN | apply Kd.R_drew)); exact HO0.out⟩, ⟨by repeat (first | (with_reducible first | exact HK.out | apply Kept.alloc | apply Kept.drewN | apply Kept.drew) | exact HK.out)⟩, ⟨by repeat (first | (with_reducible first | exact HB.out | apply below_alloc | apply pw_below_drewN | apply below_drew1) | exact HB.out)⟩⟩
  case round =>
    clear H'
    try clear p2
    obtain ⟨x0_1, x2_1, x3_1, rfl, rfl, HA, HK1, HO_0, HK, HB⟩ := hrel
    have hl0_1 := (Kd.R_reads' HO_0.out).1
    rw [hl0_1] at HO_0
    (try simp only [hl0_1])
    cases gk with
    | zero => exact absurd HA.out (by simp [slices_Reverse_int_int.l0])
    | succ k1 =>
      have H := HA.out
      clear HA
      simp only [slices_Reverse_int_int.l0] at H
      by_cases c3 : x2_1 < x3_1
      · rw [if_pos c3] at H
        have c3b0 : decide (x2_1 < x3_1) = true := decide_eq_true c3
        clear c3
        by_cases c4 : 0 ≤ x3_1
        · rw [if_pos c4] at H
          have c4b0 : decide (0 ≤ x3_1) = true := decide_eq_true c4
          clear c4
          by_cases c5 : x3_1 < (x0_1.length : Int)
          · rw [if_pos c5] at H
            have c5b0 : decide (x3_1 < (x0_1.length : Int)) = true := decide_eq_true c5
            clear c5
            by_cases c6 : 0 ≤ x2_1
            · rw [if_pos c6] at H
              have c6b0 : decide (0 ≤ x2_1) = true := decide_eq_true c6
              clear c6
              by_cases c7 : x2_1 < (x0_1.length : Int)
              · rw [if_pos c7] at H
                have c7b0 : decide (x2_1 < (x0_1.length : Int)) = true := decide_eq_true c7
                clear c7
                obtain ⟨y121, hy121⟩ : ∃ y_ : List Int, y_ = (x0_1.set (x2_1 : Int).toNat (rd x0_1 x3_1)) := ⟨_, rfl⟩
                replace H : (slices_Reverse_int_int.l0 k1 (y121.set (x3_1 : Int).toNat (rd x0_1 x2_1)) (wrap64 (x2_1 + 1)) (wrap64 (x3_1 - 1))) = some r := by first | (rw [hy121]; with_reducible exact H) | (have H2_ := (Option.bind_some _ _).symm.trans H; rw [hy121]; with_reducible exact H2_) | (have H2_ := (Option.bind_some _ _).symm.trans H; with_reducible exact H2_) | with_reducible exact H | (rw [hy121]; exact H) | exact H
                have Ny121 := Aside0.mk hy121
                clear hy121
                obtain ⟨y122, hy122⟩ : ∃ y_ : List Int, y_ = (y121.set (x3_1 : Int).toNat (rd x0_1 x2_1)) := ⟨_, rfl⟩
                replace H : (slices_Reverse_int_int.l0 k1 y122 (wrap64 (x2_1 + 1)) (wrap64 (x3_1 - 1))) = some r := by first | (rw [hy122]; with_reducible exact H) | (have H2_ := (Option.bind_some _ _).symm.trans H; rw [hy122]; with_reducible exact H2_) | (have H2_ := (Option.bind_some _ _).symm.trans H; with_reducible exact H2_) | with_reducible exact H | (rw [hy122]; exact H) | exact H
                have Ny122 := Aside0.mk hy122
                clear hy122
                have H' := Aside0.mk H
                clear H
                try go_wp2
                have n0_ := Aside0.mk (Kd.R_drew HO_0.out)
                have n1_ := Aside0.mk (Kept.drew HK.out)
                have n2_ := Aside0.mk (below_drew1 HB.out)
                clear HO_0
                clear HK
                clear HB
                have HO_0 := n0_
                have HK := n1_
                have HB := n2_
                clear n0_ n1_ n2_
                have p119 : 0 ≤ (x3_1 : Int) := of_decide_eq_true (by first | (with_reducible assumption) | assumption)
                have q119 : x3_1 < (x0_1.length : Int) := of_decide_eq_true (by first | (with_reducible assumption) | assumption)
                obtain ⟨ad119, e119, hx119_0⟩ := Kd.at_int (Kd.R_reads' HO_0.out).2.2 x3_1 p119 q119
                cases e119
                replace p119 := eq_true p119
                replace q119 := eq_true q119
                have p120 : 0 ≤ (x2_1 : Int) := of_decide_eq_true (by first | (with_reducible assumption) | assumption)
                have q120 : x2_1 < (x0_1.length : Int) := of_decide_eq_true (by first | (with_reducible assumption) | assumption)
                obtain ⟨ad120, e120, hx120_0⟩ := Kd.at_int (Kd.R_reads' HO_0.out).2.2 x2_1 p120 q120
                obtain rfl : ad119 = ad120 := (by injection e120)
                replace p120 := eq_true p120
                replace q120 := eq_true q120
                have p8 : 0 ≤ (x2_1 : Int) := of_decide_eq_true (by first | (with_reducible assumption) | assumption)
                have q8 : (x2_1 : Int) < ((x0_1.length : Int) : Int) := of_decide_eq_true (by first | (with_reducible assumption) | assumption)
                obtain ⟨go8, co8, eo8, gb8, gl8, cl8, HG8⟩ := Kd.R_form HO_0.out (by omega)
                (first | cases eo8 | (injection eo8 with ea_ en_ ec_; (first | subst ea_ | (injection ea_ with ea_; subst ea_)); subst ec_; clear en_))
                have GB8 := Aside0.mk gb8
                have GG8 := Aside0.mk HG8
                clear gb8 gl8 HG8
                have HMgo8 := Aside0.mk (show (P0_ go8 ∨ w.heap.size ≤ go8) from (HO_0.out.1 _ rfl))
                (first | simp only [add_plain] at hx119_0 | skip)
                (first | simp only [add_plain] at hx120_0 | skip)
                obtain ⟨hx8_0, hf8_0⟩ := Kd.R_celln 0 HO_0.out (x2_1 : Int) p8 q8
                replace p8 := eq_true p8
                replace q8 := eq_true q8
                have HP11 := Kd.R_putn HO_0.out (x2_1 : Int) (rd x0_1 x3_1)
                rw [← Ny121.out] at HP11
                have HQ11 := Aside0.mk HP11
                clear HP11
                have p9 : 0 ≤ (x3_1 : Int) := of_decide_eq_true (by first | (with_reducible assumption) | assumption)
                have q9 : (x3_1 : Int) < ((x0_1.length : Int) : Int) := of_decide_eq_true (by first | (with_reducible assumption) | assumption)
                obtain ⟨hx9_0, hf9_0⟩ := Kd.R_celln 0 HQ11.out (x3_1 : Int) p9 q9
                replace p9 := eq_true p9
                replace q9 := eq_true q9
                have HP12 := Kd.R_putn HQ11.out (x3_1 : Int) (rd x0_1 x2_1)
                rw [← Ny122.out] at HP12
                have HQ12 := Aside0.mk HP12
                clear HP12
                refine start_ (n := 16) (S := fun w' => w'.cell? ⟨go8, (x3_1).toNat, none⟩ = some (.int .i64 (rd x0_1 x3_1)) ∧ w'.cell? ⟨go8, (x2_1).toNat, none⟩ = some (.int .i64 (rd x0_1 x2_1))) (ds := [13, 15]) #[false, false, false, false, false, false, false, false, false, false, false, false, false, false, false, false] (by kernel_rfl) rfl rfl ⟨hx119_0, hx120_0⟩ (fun hHeld => ?_); refine with_tabW slices_Reverse_int_int.tab3 slices_Reverse_int_int.bits3 (fun HT_ HW_ => ?_)
                generalize wr.drew = w10 at HO_0 HK HB GG8 HQ11 HQ12 hf8_0 hf9_0 hx119_0 hx120_0 hx8_0 hx9_0 hHeld ⊢
                refine pure_ (i := 0) (N := some 14) (v := ?_) (a' := ?_) #[true, false, false, false, false, false, false, false, false, false, false, false, false, false, false, false] rfl rfl (any_of HT_.out (by kernel_rfl)) (fun _ _ _ h => h) (Or.inl ⟨by rfl, ?_⟩) ?_ ?_
                rotate_left
                · intro w'
                  go_simp
                  with_reducible rfl
                rotate_left
                · simp only [Act.put, List.setIfInBounds_toArray, List.set_cons_zero, List.set_cons_succ, i64_w, i32_w]
                  rfl
                refine pure_ (i := 1) (N := some 15) (v := ?_) (a' := ?_) #[true, true, false, false, false, false, false, false, false, false, false, false, false, false, false, false] rfl rfl (any_of HT_.out (by kernel_rfl)) (fun _ _ _ h => h) (Or.inl ⟨by rfl, ?_⟩) ?_ ?_
                rotate_left
                · intro w'
                  go_simp
                  with_reducible rfl
                rotate_left
                · simp only [Act.put, List.setIfInBounds_toArray, List.set_cons_zero, List.set_cons_succ, i64_w, i32_w]
                  rfl
                refine pure_ (i := 2) (N := some 16) (v := ?_) (a' := ?_) #[true, true, true, false, false, false, false, false, false, false, false, false, false, false, false, false] rfl rfl (any_of HT_.out (by kernel_rfl)) (fun _ _ _ h => h) (Or.inl ⟨by rfl, ?_⟩) ?_ ?_
                rotate_left
                · intro w'
                  go_simp
                  with_reducible rfl
                rotate_left
                · simp only [Act.put, List.setIfInBounds_toArray, List.set_cons_zero, List.set_cons_succ, i64_w, i32_w]
                  rfl
                refine pure_ (i := 3) (N := some 17) (v := ?_) (a' := ?_) #[true, true, true, true, false, false, false, false, false, false, false, false, false, false, false, false] rfl rfl (any_of HT_.out (by kernel_rfl)) (fun _ _ _ h => h) (Or.inl ⟨by rfl, ?_⟩) ?_ ?_
                rotate_left
                · intro w'
                  go_simp
                  with_reducible rfl
                rotate_left
                · simp only [Act.put, List.setIfInBounds_toArray, List.set_cons_zero, List.set_cons_succ, i64_w, i32_w]
                  rfl
                refine pure_ (i := 4) (N := some 18) (v := ?_) (a' := ?_) #[true, true, true, true, true, false, false, false, false, false, false, false, false, false, false, false] rfl rfl (any_of HT_.out (by kernel_rfl)) (fun _ _ _ h => h) (Or.inl ⟨by rfl, ?_⟩) ?_ ?_
                rotate_left
                · intro w'
                  go_simp
                  with_reducible rfl
                rotate_left
                · simp only [Act.put, List.setIfInBounds_toArray, List.set_cons_zero, List.set_cons_succ, i64_w, i32_w]
                  rfl
                refine pure_ (i := 5) (N := some 19) (v := ?_) (a' := ?_) #[true, true, true, true, true, true, false, false, false, false, false, false, false, false, false, false] rfl rfl (any_of HT_.out (by kernel_rfl)) (fun _ _ _ h => h) (Or.inl ⟨by rfl, ?_⟩) ?_ ?_
                rotate_left
                · intro w'
                  go_simp
                  with_reducible rfl
                rotate_left
                · simp only [Act.put, List.setIfInBounds_toArray, List.set_cons_zero, List.set_cons_succ, i64_w, i32_w]
                  rfl
                refine pure_ (i := 6) (N := some 20) (v := ?_) (a' := ?_) #[true, true, true, true, true, true, true, false, false, false, false, false, false, false, false, false] rfl rfl (any_of HT_.out (by kernel_rfl)) (fun _ _ _ h => h) (Or.inl ⟨by rfl, ?_⟩) ?_ ?_
                rotate_left
                · intro w'
                  go_simp
                  with_reducible rfl
                rotate_left
                · simp only [Act.put, List.setIfInBounds_toArray, List.set_cons_zero, List.set_cons_succ, i64_w, i32_w]
                  rfl
                refine pure_ (i := 8) (N := some 22) (v := ?_) (a' := ?_) #[true, true, true, true, true, true, true, false, true, false, false, false, false, false, false, false] rfl rfl (any_of HT_.out (by kernel_rfl)) (fun _ _ _ h => h) (Or.inl ⟨by rfl, ?_⟩) ?_ ?_
                rotate_left
                · intro w'
                  go_simp
                  with_reducible rfl
                rotate_left
                · simp only [Act.put, List.setIfInBounds_toArray, List.set_cons_zero, List.set_cons_succ, i64_w, i32_w]
                  rfl
                refine pure_ (i := 9) (N := some 23) (v := ?_) (a' := ?_) #[true, true, true, true, true, true, true, false, true, true, false, false, false, false, false, false] rfl rfl (any_of HT_.out (by kernel_rfl)) (fun _ _ _ h => h) (Or.inl ⟨by rfl, ?_⟩) ?_ ?_
                rotate_left
                · intro w'
                  go_simp
                  with_reducible rfl
                rotate_left
                · simp only [Act.put, List.setIfInBounds_toArray, List.set_cons_zero, List.set_cons_succ, i64_w, i32_w]
                  rfl
                refine pure_ (i := 10) (N := some 24) (v := ?_) (a' := ?_) #[true, true, true, true, true, true, true, false, true, true, true, false, false, false, false, false] rfl rfl (any_of HT_.out (by kernel_rfl)) (fun _ _ _ h => h) (Or.inl ⟨by rfl, ?_⟩) ?_ ?_
                rotate_left
                · intro w'
                  go_simp
                  with_reducible rfl
                rotate_left
                · simp only [Act.put, List.setIfInBounds_toArray, List.set_cons_zero, List.set_cons_succ, i64_w, i32_w]
                  rfl
                refine take_ (i := 7) (N := some 21) (v := ?_) (a' := ?_) #[true, true, true, true, true, true, true, true, true, true, true, false, false, false, false, false] rfl rfl (take_ofW HT_.out HW_.out (by kernel_rfl)) (fun _ _ _ h => h) (Or.inl ⟨by rfl, ?_⟩) hHeld ?_ ?_
                rotate_left
                · rintro w' ⟨s0, s1⟩
                  go_simp
                  with_reducible rfl
                rotate_left
                · simp only [Act.put, List.setIfInBounds_toArray, List.set_cons_zero, List.set_cons_succ, i64_w, i32_w]
                  rfl
                refine take_ (i := 11) (N := some 25) (v := ?_) (a' := ?_) #[true, true, true, true, true, true, true, true, true, true, true, true, false, false, false, false] rfl rfl (take_ofW HT_.out HW_.out (by kernel_rfl)) (fun _ _ _ h => h) (Or.inl ⟨by rfl, ?_⟩) hHeld ?_ ?_
                rotate_left
                · rintro w' ⟨s0, s1⟩
                  go_simp
                  with_reducible rfl
                rotate_left
                · simp only [Act.put, List.setIfInBounds_toArray, List.set_cons_zero, List.set_cons_succ, i64_w, i32_w]
                  rfl
                refine pure_ (i := 12) (N := some 26) (v := ?_) (a' := ?_) #[true, true, true, true, true, true, true, true, true, true, true, true, true, false, false, false] rfl rfl (any_of HT_.out (by kernel_rfl)) (fun _ _ _ h => h) (Or.inl ⟨by rfl, ?_⟩) ?_ ?_
                rotate_left
                · intro w'
                  go_simp
                  with_reducible rfl
                rotate_left
                · simp only [Act.put, List.setIfInBounds_toArray, List.set_cons_zero, List.set_cons_succ, i64_w, i32_w]
                  rfl
                refine last_ (i := 13) (N := none) #[true, true, true, true, true, true, true, true, true, true, true, true, true, true, false, false] rfl rfl (one_of HT_.out (by kernel_rfl)) (by decide) (fun K hK => ?_)
                refine skip_ (w1 := ?_) (by rfl) rfl ?_ ?_
                rotate_left
                · go_simp
                  rfl
                refine hK.out _ _ ?_
                clear hK K
                refine pure_ (i := 14) (N := some 27) (v := ?_) (a' := ?_) #[true, true, true, true, true, true, true, true, true, true, true, true, true, true, true, false] rfl rfl (any_of HT_.out (by kernel_rfl)) (fun _ _ _ h => h) (Or.inl ⟨by rfl, ?_⟩) ?_ ?_
                rotate_left
                · intro w'
                  go_simp
                  with_reducible rfl
                rotate_left
                · simp only [Act.put, List.setIfInBounds_toArray, List.set_cons_zero, List.set_cons_succ, i64_w, i32_w]
                  rfl
                refine last_ (i := 15) (N := none) #[true, true, true, true, true, true, true, true, true, true, true, true, true, true, true, true] rfl rfl (one_of HT_.out (by kernel_rfl)) (by decide) (fun K hK => ?_)
                refine skip_ (w1 := ?_) (by rfl) rfl ?_ ?_
                rotate_left
                · go_simp
                  rfl
                refine hK.out _ _ ?_
                clear hK K
                refine done_ (done_of HT_.out (by kernel_rfl)) ?_
                try go_wp2
                (try simp only [← hl0_1])
                go_roundg k1
                case measure => have := HK1.out; omega
                case rel => exact ⟨(y122), (wrap64 (x2_1 + 1)), (wrap64 (x3_1 - 1)), (by first | rfl | (simp; done) | (simp [*]; done)), (by first | rfl | (simp; done) | (simp [*]; done)), H', ⟨by have := HK1.out; omega⟩, ⟨by (try simp only [hl0_1]); (with_reducible repeat (first | apply Kd.R_alloc | apply Kd.R_drewN | apply Kd.R_drew)); exact HQ12.out⟩, ⟨by repeat (first | (with_reducible first | exact HK.out | apply Kept.alloc | apply Kept.drewN | apply Kept.drew | refine Kept.setCell ?_ HMgo8.out _ | refine Kept.setCell ?_ HMgo8.out _) | exact HK.out)⟩, ⟨by repeat (first | (with_reducible first | exact HB.out | apply below_alloc | apply pw_below_drewN | apply below_drew1 | refine below_set ?_ GB8.out | refine below_set ?_ GB8.out) | exact HB.out)⟩⟩
              · rw [if_neg c7] at H
                exact absurd H (by simp)
            · rw [if_neg c6] at H
              exact absurd H (by simp)
          · rw [if_neg c5] at H
            exact absurd H (by simp)
        · rw [if_neg c4] at H
          exact absurd H (by simp)
      · rw [if_neg c3] at H
        have c3b0 : decide (x2_1 < x3_1) = false := decide_eq_false c3
        clear c3
        obtain rfl := Option.some.inj H
        go_wp2
        first | go_end0 | ((try simp only [Exit.inBlock, Exit.then]); refine bodyPost_ret (results_none rfl _ _ _) rfl ?_)
        exact ⟨by first | rfl | (simp [errW_none, errW_some] <;> rfl) | (simp [*, errW_none, errW_some] <;> rfl), (by first | exact (by (with_reducible repeat (first | apply Kd.R_alloc | apply Kd.R_drewN | apply Kd.R_drew)); exact HO_0.out) | (simp only [hl0_1]; exact (by (with_reducible repeat (first | apply Kd.R_alloc | apply Kd.R_drewN | apply Kd.R_drew)); exact HO_0.out))), by repeat (first | (with_reducible first | exact HB.out | apply below_alloc | apply pw_below_drewN | apply below_drew1) | exact HB.out), by repeat (first | (with_reducible first | exact HK.out | apply Kept.alloc | apply Kept.drewN | apply Kept.drew) | exact HK.out)⟩

-- NOT PRINTED: function 31 (digraph_ReversePostorder)
end Go.Proofs.Ytbphjbfnnhfhlaa.PDigraphTells
end

section
/- The printed function digraph_has. -/
namespace Go.Proofs.Ytbphjbfnnhfhlaa.PDigraphTells
open Go.RowKit Go.Proofs.YtbphjbfnnhfhlaaW.PrintWords Go.Proofs.YtbphjbfnnhfhlaaW.PrintLast Go.Proofs.YtbphjbfnnhfhlaaW.PrintMore
attribute [local go_sem] max2_int min2_int max_two min_two max_three min_three max_four min_four   -- for this text's walks alone
set_option linter.unusedVariables false
set_option linter.unusedSimpArgs false

/-! ### digraph_has: function 50 -/
def digraph_has.l0 : Nat → List Int → Int → Int → List (List Int) → Option (Bool)
  | 0, _, _, _, _ => none
  | k + 1, x7, x8, x9, x109000 => if x9 < x8 then (if 0 ≤ x9 then (if x9 < (x7.length : Int) then (if (rd x7 x9) < 0 then (some false) else (if (rd x7 x9) ≥ (x109000.length : Int) then (some false) else (digraph_has.l0 k x7 x8 (wrap64 (x9 + 1)) x109000))) else (none)) else (none)) else ((digraph_Check.f k x109000).bind fun t110 => (some (t110 == 0)))
def digraph_has.f (k : Nat) (l0_0 : List (List Int)) (l1 : List Int) : Option (Bool) := digraph_has.l0 k l1 (l1.length : Int) 0 l0_0
theorem digraph_has.mono_l : ∀ k, (∀ y0 y1 y2 y3, LeO (digraph_has.l0 k y0 y1 y2 y3) (digraph_has.l0 (k + 1) y0 y1 y2 y3))
  | 0 => fun _ _ _ _ r h => by simp [digraph_has.l0] at h
  | k + 1 => by
    have ih0 := digraph_has.mono_l k
    · intro y0 y1 y2 y3
      unfold digraph_has.l0
      repeat' first
      | (with_reducible exact ih0 _ _ _ _)
      | (with_reducible exact digraph_Check.mono _ _)
      | (with_reducible exact LeO.refl _)
      | (with_reducible exact LeO.none _)
      | (with_reducible refine LeO.ite ?_ ?_)
      | (with_reducible refine LeO.bind ?_ (fun _ => ?_))
      | exact ih0 _ _ _ _
      | exact digraph_Check.mono _ _
      | exact LeO.none _
      | refine LeO.ite ?_ ?_
      | refine LeO.bind ?_ (fun _ => ?_)
theorem digraph_has.mono : ∀ a0 a1 k, LeO (digraph_has.f k a0 a1) (digraph_has.f (k + 1) a0 a1) := by
  intro a0 a1 k
  have ih0 := digraph_has.mono_l k
  unfold digraph_has.f
  repeat' first
      | (with_reducible exact ih0 _ _ _ _)
      | (with_reducible exact digraph_Check.mono _ _)
      | (with_reducible exact LeO.refl _)
      | (with_reducible exact LeO.none _)
      | (with_reducible refine LeO.ite ?_ ?_)
      | (with_reducible refine LeO.bind ?_ (fun _ => ?_))
      | exact ih0 _ _ _ _
      | exact digraph_Check.mono _ _
      | exact LeO.none _
      | refine LeO.ite ?_ ?_
      | refine LeO.bind ?_ (fun _ => ?_)
set_option maxHeartbeats 8000000 in
set_option maxRecDepth 100000 in
theorem digraph_has.calls (k : Nat) (A0_0 : Option Addr) (c0_0 : Nat) (l0_0 : List (List Int)) (A1 : Option Addr) (c1 : Nat) (l1 : List Int) (r : Bool) (w : World) (hr0_0 : Kd.C (Kd.slice 3 (Kd.int .i64)) w A0_0 l0_0.length l0_0) (hc0_0 : l0_0.length ≤ c0_0) (hr1 : Kd.C (Kd.int .i64) w A1 l1.length l1) (hc1 : l1.length ≤ c1) (h : digraph_has.f k l0_0 l1 = some r) :
    Calls Try.prog 50 #[.agg #[.slice A0_0 l0_0.length c0_0], .slice A1 l1.length c1] w fun e w' => e = .returned (.bool r) ∧ Below w.heap.size w w' := by
  have hu24 := Try.underlying24
  have HR0_0 := Aside0.mk hr0_0
  have HC0_0 := Aside0.mk hc0_0
  clear hr0_0 hc0_0
  have HR1 := Aside0.mk hr1
  have HC1 := Aside0.mk hc1
  clear hr1 hc1
  have HB := Aside0.mk (Below.refl w.heap.size w)
  have H : (digraph_has.l0 k l1 (l1.length : Int) 0 l0_0) = some r := h
  clear h
  have H' := Aside0.mk H
  clear H
  go_enter Try.func50, Try.ntmps50
  go_wp2_with (first | ((with_reducible refine gate_dst (N := 2) rfl ?_); (try (refine gate_guard (by rfl) ?_; dsimp only)); refine box_event ?hg (N := 2) ?hd (cs := #[.slice A0_0 l0_0.length c0_0]) (t := 24) ?hr ?_; (case hd => rfl); (case hg => rfl); (case hr => first | (go_simp; done) | (go_simp; rfl)); intro gb108 hg w3 hbox hb; have n0_ := Aside0.mk (below_step (by repeat (first | (with_reducible first | exact HB.out | apply below_alloc | apply pw_below_drewN | apply below_drew1) | exact HB.out)) hb); have n1_ := Aside0.mk (hbox); have n2_ := Aside0.mk ((by rw [hg]; exact (below_size (by repeat (first | (with_reducible first | exact HB.out | apply below_alloc | apply pw_below_drewN | apply below_drew1) | exact HB.out))) : w.heap.size ≤ gb108)); have n3_ := Aside0.mk ((by rw [hg]; exact (below_size (by repeat (first | (with_reducible first | exact HB.out | apply below_alloc | apply pw_below_drewN | apply below_drew1) | exact HB.out))) : w.heap.size ≤ gb108)); clear HB; have HB := n0_; have BK108 := n1_; have GW108 := n2_; have GE108 := n3_; clear n0_ n1_ n2_ n3_; clear hb hbox hg))
  go_loopg [9] k (fun kq v9 w' => ∃ (x9_1 : Int), v9 = .int .i64 x9_1 ∧ Aside0 (digraph_has.l0 kq l1 (l1.length : Int) x9_1 l0_0 = some r) ∧ Aside0 (kq ≤ k) ∧ Aside0 (w'.heap[gb108]? = some (.cells #[(.slice A0_0 l0_0.length c0_0)] 24 (0, 0))) ∧ Aside0 (Below w.heap.size w w'))
  case atStart => exact ⟨(0), (by first | rfl | (simp; done) | (simp [*]; done)), H', ⟨Nat.le_refl _⟩, ⟨by (with_reducible repeat (first | refine blk_drewN ?_ _ | refine blk_drew ?_ | refine blk_alloc ?_ _)); exact BK108.out⟩, ⟨by repeat (first | (with_reducible first | exact HB.out | apply below_alloc | apply pw_below_drewN | apply below_drew1 | refine below_set ?_ GE108.out) | exact HB.out)⟩⟩
  case round =>
    clear H'
    try clear c1
    try clear p2
    obtain ⟨x9_1, rfl, HA, HK1, BK108, HB⟩ := hrel
    cases gk with
    | zero => exact absurd HA.out (by simp [digraph_has.l0])
    | succ k1 =>
      have H := HA.out
      clear HA
      simp only [digraph_has.l0] at H
      by_cases c4 : x9_1 < (l1.length : Int)
      · rw [if_pos c4] at H
        have c4b0 : decide (x9_1 < (l1.length : Int)) = true := decide_eq_true c4
        clear c4
        by_cases c5 : 0 ≤ x9_1
        · rw [if_pos c5] at H
          have c5b0 : decide (0 ≤ x9_1) = true := decide_eq_true c5
          clear c5
          by_cases c6 : x9_1 < (l1.length : Int)
          · rw [if_pos c6] at H
            have c6b0 : decide (x9_1 < (l1.length : Int)) = true := decide_eq_true c6
            clear c6
            by_cases c7 : (rd l1 x9_1) < 0
            · rw [if_pos c7] at H
              have c7b0 : decide ((rd l1 x9_1) < 0) = true := decide_eq_true c7
              clear c7
              obtain rfl := Option.some.inj H
              have p109 : 0 ≤ (x9_1 : Int) := of_decide_eq_true (by first | (with_reducible assumption) | assumption)
              have q109 : x9_1 < (l1.length : Int) := of_decide_eq_true (by first | (with_reducible assumption) | assumption)
              obtain ⟨ad109, e109, hx109_0⟩ := Kd.at_int HR1.out x9_1 p109 q109
              cases e109
              replace hx109_0 := (HB.out.cell (World.block_lt_of_cell? w _ hx109_0)).trans hx109_0
              replace p109 := eq_true p109
              replace q109 := eq_true q109
              go_wp2
              go_ret
              exact ⟨by first | rfl | (simp [errW_none, errW_some] <;> rfl) | (simp [*, errW_none, errW_some] <;> rfl), by repeat (first | (with_reducible first | exact HB.out | apply below_alloc | apply pw_below_drewN | apply below_drew1 | refine below_set ?_ GE108.out) | exact HB.out)⟩
            · rw [if_neg c7] at H
              have c7b0 : decide ((rd l1 x9_1) < 0) = false := decide_eq_false c7
              clear c7
              by_cases c8 : (rd l1 x9_1) ≥ (l0_0.length : Int)
              · rw [if_pos c8] at H
                have c8b0 : decide ((l0_0.length : Int) ≤ (rd l1 x9_1)) = true := decide_eq_true c8
                clear c8
                obtain rfl := Option.some.inj H
                have p109 : 0 ≤ (x9_1 : Int) := of_decide_eq_true (by first | (with_reducible assumption) | assumption)
                have q109 : x9_1 < (l1.length : Int) := of_decide_eq_true (by first | (with_reducible assumption) | assumption)
                obtain ⟨ad109, e109, hx109_0⟩ := Kd.at_int HR1.out x9_1 p109 q109
                cases e109
                replace hx109_0 := (HB.out.cell (World.block_lt_of_cell? w _ hx109_0)).trans hx109_0
                replace p109 := eq_true p109
                replace q109 := eq_true q109
                have hcz9_0 : wr.cell? ⟨gb108, 0, none⟩ = some (.slice A0_0 l0_0.length c0_0) := (blk_cell BK108.out 0).trans rfl
                have hfz9_0 := blk_frozen BK108.out 0
                go_wp2
                go_ret
                exact ⟨by first | rfl | (simp [errW_none, errW_some] <;> rfl) | (simp [*, errW_none, errW_some] <;> rfl), by repeat (first | (with_reducible first | exact HB.out | apply below_alloc | apply pw_below_drewN | apply below_drew1 | refine below_set ?_ GE108.out) | exact HB.out)⟩
              · rw [if_neg c8] at H
                have c8b0 : decide ((l0_0.length : Int) ≤ (rd l1 x9_1)) = false := decide_eq_false c8
                clear c8
                have H' := Aside0.mk H
                clear H
                have p109 : 0 ≤ (x9_1 : Int) := of_decide_eq_true (by first | (with_reducible assumption) | assumption)
                have q109 : x9_1 < (l1.length : Int) := of_decide_eq_true (by first | (with_reducible assumption) | assumption)
                obtain ⟨ad109, e109, hx109_0⟩ := Kd.at_int HR1.out x9_1 p109 q109
                cases e109
                replace hx109_0 := (HB.out.cell (World.block_lt_of_cell? w _ hx109_0)).trans hx109_0
                replace p109 := eq_true p109
                replace q109 := eq_true q109
                have hcz10_0 : wr.cell? ⟨gb108, 0, none⟩ = some (.slice A0_0 l0_0.length c0_0) := (blk_cell BK108.out 0).trans rfl
                have hfz10_0 := blk_frozen BK108.out 0
                go_wp2
                go_roundg k1
                case measure => have := HK1.out; omega
                case rel => exact ⟨(wrap64 (x9_1 + 1)), (by first | rfl | (simp; done) | (simp [*]; done)), H', ⟨by have := HK1.out; omega⟩, ⟨by (with_reducible repeat (first | refine blk_drewN ?_ _ | refine blk_drew ?_ | refine blk_alloc ?_ _)); exact BK108.out⟩, ⟨by repeat (first | (with_reducible first | exact HB.out | apply below_alloc | apply pw_below_drewN | apply below_drew1 | refine below_set ?_ GE108.out) | exact HB.out)⟩⟩
          · rw [if_neg c6] at H
            exact absurd H (by simp)
        · rw [if_neg c5] at H
          exact absurd H (by simp)
      · rw [if_neg c4] at H
        have c4b0 : decide (x9_1 < (l1.length : Int)) = false := decide_eq_false c4
        clear c4
        replace H := Option.bind_eq_some_iff.mp H
        obtain ⟨t110, A110, H⟩ := H
        replace H : (some (t110 == 0)) = some r := H
        have A11 := Aside0.mk A110
        clear A110
        obtain rfl := Option.some.inj H
        have hcz12_0 : wr.cell? ⟨gb108, 0, none⟩ = some (.slice A0_0 l0_0.length c0_0) := (blk_cell BK108.out 0).trans rfl
        have hfz12_0 := blk_frozen BK108.out 0
        go_wp2_with (first | ((with_reducible refine gate_callee (f := 36) rfl ?_); refine goesL_ (some 24) rfl rfl Try.func36 (by kernel_rfl) rfl #[.agg #[.slice A0_0 l0_0.length c0_0]] rfl (by (try simp only [List.map_toArray, List.map_cons, List.map_nil]); first | done | rfl | (simp only [List.length_drop, List.length_take]; rfl)) ?_; (with_reducible refine (digraph_Check.calls k1 _ _ l0_0 t110 _ ?side1 ?side2 A11.out).mono ?_); (case side1 => repeat (first | exact (Kd.C_below HR0_0.out HB.out) | (with_reducible refine Kd.C_alloc ?_ _) | (with_reducible refine Kd.C_drewN ?_ _) | (with_reducible refine Kd.C_drew ?_))); (case side2 => exact HC0_0.out); rintro e w13 ⟨rfl, hb⟩; refine ⟨_, rfl, ?_⟩; have n0_ := Aside0.mk (blk_below (g := gb108) (o := .cells #[.slice A0_0 l0_0.length c0_0] 24 (0, 0)) (by (with_reducible repeat (first | refine blk_drewN ?_ _ | refine blk_drew ?_ | refine blk_alloc ?_ _)); exact BK108.out) hb); have n1_ := Aside0.mk (below_step (by repeat (first | (with_reducible first | exact HB.out | apply below_alloc | apply pw_below_drewN | apply below_drew1 | refine below_set ?_ GE108.out) | exact HB.out)) hb); clear BK108; clear HB; have BK108 := n0_; have HB := n1_; clear n0_ n1_; (try clear hb); (try clear hb2); (try clear hk); (try clear hi)))
        go_ret
        exact ⟨by first | rfl | (simp [errW_none, errW_some] <;> rfl) | (simp [*, errW_none, errW_some] <;> rfl), by repeat (first | (with_reducible first | exact HB.out | apply below_alloc | apply pw_below_drewN | apply below_drew1 | refine below_set ?_ GE108.out) | exact HB.out)⟩

-- NOT PRINTED: function 55 (bitset_Set_valid)

-- NOT PRINTED: function 56 (bitset_Set_Has)

-- NOT PRINTED: function 53 (bitset_Set_Add)

-- NOT PRINTED: function 54 (bitset_New)

-- NOT PRINTED: function 51 (bitset_Of)

-- NOT PRINTED: function 45 (digraph_Postorder)
end Go.Proofs.Ytbphjbfnnhfhlaa.PDigraphTells
end

section
/- The printed function burnishlaw08_large. -/
namespace Go.Proofs.Ytbphjbfnnhfhlaa.PDigraphTells
open Go.RowKit Go.Proofs.YtbphjbfnnhfhlaaW.PrintWords Go.Proofs.YtbphjbfnnhfhlaaW.PrintLast Go.Proofs.YtbphjbfnnhfhlaaW.PrintMore
attribute [local go_sem] max2_int min2_int max_two min_two max_three min_three max_four min_four   -- for this text's walks alone
set_option linter.unusedVariables false
set_option linter.unusedSimpArgs false

/-! ### burnishlaw08_large: function 9 -/
def burnishlaw08_large.l0 : Nat → Int → List (List Int) → Int → Int → Option (Bool)
  | 0, _, _, _, _ => none
  | k + 1, x3, x11, x12, x13 => if x13 < x12 then (if 0 ≤ x13 then (if x13 < (x11.length : Int) then (if ((rd_L1 x11 x13).length : Int) > 200 then (some true) else (burnishlaw08_large.l0 k (wrap64 (x3 + ((rd_L1 x11 x13).length : Int))) x11 x12 (wrap64 (x13 + 1)))) else (none)) else (none)) else (some (decide (x3 > 400)))
def burnishlaw08_large.f (k : Nat) (l0_0 : List (List Int)) : Option (Bool) := if (l0_0.length : Int) > 60 then (some true) else (burnishlaw08_large.l0 k 0 l0_0 (l0_0.length : Int) 0)
theorem burnishlaw08_large.mono_l : ∀ k, (∀ y0 y1 y2 y3, LeO (burnishlaw08_large.l0 k y0 y1 y2 y3) (burnishlaw08_large.l0 (k + 1) y0 y1 y2 y3))
  | 0 => fun _ _ _ _ r h => by simp [burnishlaw08_large.l0] at h
  | k + 1 => by
    have ih0 := burnishlaw08_large.mono_l k
    · intro y0 y1 y2 y3
      unfold burnishlaw08_large.l0
      repeat' first
      | (with_reducible exact ih0 _ _ _ _)
      | (with_reducible exact LeO.refl _)
      | (with_reducible exact LeO.none _)
      | (with_reducible refine LeO.ite ?_ ?_)
      | (with_reducible refine LeO.bind ?_ (fun _ => ?_))
      | exact ih0 _ _ _ _
      | exact LeO.none _
      | refine LeO.ite ?_ ?_
      | refine LeO.bind ?_ (fun _ => ?_)
theorem burnishlaw08_large.mono : ∀ a0 k, LeO (burnishlaw08_large.f k a0) (burnishlaw08_large.f (k + 1) a0) := by
  intro a0 k
  have ih0 := burnishlaw08_large.mono_l k
  unfold burnishlaw08_large.f
  repeat' first
      | (with_reducible exact ih0 _ _ _ _)
      | (with_reducible exact LeO.refl _)
      | (with_reducible exact LeO.none _)
      | (with_reducible refine LeO.ite ?_ ?_)
      | (with_reducible refine LeO.bind ?_ (fun _ => ?_))
      | exact ih0 _ _ _ _
      | exact LeO.none _
      | refine LeO.ite ?_ ?_
      | refine LeO.bind ?_ (fun _ => ?_)
set_option maxHeartbeats 8000000 in
set_option maxRecDepth 100000 in
theorem burnishlaw08_large.calls (k : Nat) (A0_0 : Option Addr) (c0_0 : Nat) (l0_0 : List (List Int)) (r : Bool) (w : World) (hr0_0 : Kd.C (Kd.slice 3 (Kd.int .i64)) w A0_0 l0_0.length l0_0) (hc0_0 : l0_0.length ≤ c0_0) (h : burnishlaw08_large.f k l0_0 = some r) :
    Calls Try.prog 9 #[.agg #[.slice A0_0 l0_0.length c0_0]] w fun e w' => e = .returned (.bool r) ∧ Below w.heap.size w w' := by
  have hu24 := Try.underlying24
  have HR0_0 := Aside0.mk hr0_0
  have HC0_0 := Aside0.mk hc0_0
  clear hr0_0 hc0_0
  have HB := Aside0.mk (Below.refl w.heap.size w)
  have H : (if (l0_0.length : Int) > 60 then (some true) else (burnishlaw08_large.l0 k 0 l0_0 (l0_0.length : Int) 0)) = some r := h
  clear h
  by_cases c2 : (l0_0.length : Int) > 60
  · rw [if_pos c2] at H
    have c2b0 : decide (60 < (l0_0.length : Int)) = true := decide_eq_true c2
    have c2b1 : decide (60 < l0_0.length) = true := decide_eq_true (by omega)
    clear c2
    obtain rfl := Option.some.inj H
    go_enter Try.func9, Try.ntmps9
    go_wp2_with (first | ((with_reducible refine gate_dst (N := 1) rfl ?_); refine box_event ?hg (N := 1) ?hd (cs := #[.slice A0_0 l0_0.length c0_0]) (t := 24) ?hr ?_; (case hd => rfl); (case hg => rfl); (case hr => first | (go_simp; done) | (go_simp; rfl)); intro gb101 hg w3 hbox hb; have n0_ := Aside0.mk (below_step (by repeat (first | (with_reducible first | exact HB.out | apply below_alloc | apply pw_below_drewN | apply below_drew1) | exact HB.out)) hb); have n1_ := Aside0.mk (hbox); have n2_ := Aside0.mk ((by rw [hg]; exact (below_size (by repeat (first | (with_reducible first | exact HB.out | apply below_alloc | apply pw_below_drewN | apply below_drew1) | exact HB.out))) : w.heap.size ≤ gb101)); have n3_ := Aside0.mk ((by rw [hg]; exact (below_size (by repeat (first | (with_reducible first | exact HB.out | apply below_alloc | apply pw_below_drewN | apply below_drew1) | exact HB.out))) : w.heap.size ≤ gb101)); clear HB; have HB := n0_; have BK101 := n1_; have GW101 := n2_; have GE101 := n3_; clear n0_ n1_ n2_ n3_; clear hb hbox hg; have hcz4_0 : w3.cell? ⟨gb101, 0, none⟩ = some (.slice A0_0 l0_0.length c0_0) := (blk_cell BK101.out 0).trans rfl; have hfz4_0 := blk_frozen BK101.out 0))
    go_ret
    exact ⟨by first | rfl | (simp [errW_none, errW_some] <;> rfl) | (simp [*, errW_none, errW_some] <;> rfl), by repeat (first | (with_reducible first | exact HB.out | apply below_alloc | apply pw_below_drewN | apply below_drew1 | refine below_set ?_ GE101.out) | exact HB.out)⟩
  · rw [if_neg c2] at H
    have c2b0 : decide (60 < (l0_0.length : Int)) = false := decide_eq_false c2
    have c2b1 : decide (60 < l0_0.length) = false := decide_eq_false (by omega)
    clear c2
    have H' := Aside0.mk H
    clear H
    go_enter Try.func9, Try.ntmps9
    go_wp2_with (first | ((with_reducible refine gate_dst (N := 1) rfl ?_); refine box_event ?hg (N := 1) ?hd (cs := #[.slice A0_0 l0_0.length c0_0]) (t := 24) ?hr ?_; (case hd => rfl); (case hg => rfl); (case hr => first | (go_simp; done) | (go_simp; rfl)); intro gb101 hg w5 hbox hb; have n0_ := Aside0.mk (below_step (by repeat (first | (with_reducible first | exact HB.out | apply below_alloc | apply pw_below_drewN | apply below_drew1) | exact HB.out)) hb); have n1_ := Aside0.mk (hbox); have n2_ := Aside0.mk ((by rw [hg]; exact (below_size (by repeat (first | (with_reducible first | exact HB.out | apply below_alloc | apply pw_below_drewN | apply below_drew1) | exact HB.out))) : w.heap.size ≤ gb101)); have n3_ := Aside0.mk ((by rw [hg]; exact (below_size (by repeat (first | (with_reducible first | exact HB.out | apply below_alloc | apply pw_below_drewN | apply below_drew1) | exact HB.out))) : w.heap.size ≤ gb101)); clear HB; have HB := n0_; have BK101 := n1_; have GW101 := n2_; have GE101 := n3_; clear n0_ n1_ n2_ n3_; clear hb hbox hg; have hcz6_0 : w5.cell? ⟨gb101, 0, none⟩ = some (.slice A0_0 l0_0.length c0_0) := (blk_cell BK101.out 0).trans rfl; have hfz6_0 := blk_frozen BK101.out 0))
    go_loopg [3, 13] k (fun kq v3 v13 w' => ∃ (x3_1 : Int) (x13_1 : Int), v3 = .int .i64 x3_1 ∧ v13 = .int .i64 x13_1 ∧ Aside0 (burnishlaw08_large.l0 kq x3_1 l0_0 (l0_0.length : Int) x13_1 = some r) ∧ Aside0 (kq ≤ k) ∧ Aside0 (w'.heap[gb101]? = some (.cells #[(.slice A0_0 l0_0.length c0_0)] 24 (0, 0))) ∧ Aside0 (Below w.heap.size w w'))
    case atStart => exact ⟨(0), (0), (by first | rfl | (simp; done) | (simp [*]; done)), (by first | rfl | (simp; done) | (simp [*]; done)), H', ⟨Nat.le_refl _⟩, ⟨by (with_reducible repeat (first | refine blk_drewN ?_ _ | refine blk_drew ?_ | refine blk_alloc ?_ _)); exact BK101.out⟩, ⟨by repeat (first | (with_reducible first | exact HB.out | apply below_alloc | apply pw_below_drewN | apply below_drew1 | refine below_set ?_ GE101.out) | exact HB.out)⟩⟩
    case round =>
      clear H'
      try clear c2
      try clear c2b0
      try clear c2b1
      try clear p2
      try clear hcz4_0
      try clear hcz6_0
      try clear hfz4_0
      try clear hfz6_0
      obtain ⟨x3_1, x13_1, rfl, rfl, HA, HK1, BK101, HB⟩ := hrel
      cases gk with
      | zero => exact absurd HA.out (by simp [burnishlaw08_large.l0])
      | succ k1 =>
        have H := HA.out
        clear HA
        simp only [burnishlaw08_large.l0] at H
        by_cases c7 : x13_1 < (l0_0.length : Int)
        · rw [if_pos c7] at H
          have c7b0 : decide (x13_1 < (l0_0.length : Int)) = true := decide_eq_true c7
          clear c7
          by_cases c8 : 0 ≤ x13_1
          · rw [if_pos c8] at H
            have c8b0 : decide (0 ≤ x13_1) = true := decide_eq_true c8
            clear c8
            by_cases c9 : x13_1 < (l0_0.length : Int)
            · rw [if_pos c9] at H
              have c9b0 : decide (x13_1 < (l0_0.length : Int)) = true := decide_eq_true c9
              clear c9
              by_cases c10 : ((rd_L1 l0_0 x13_1).length : Int) > 200
              · rw [if_pos c10] at H
                have c10b0 : decide (200 < ((rd_L1 l0_0 x13_1).length : Int)) = true := decide_eq_true c10
                have c10b1 : decide (200 < (rd_L1 l0_0 x13_1).length) = true := decide_eq_true (by omega)
                clear c10
                obtain rfl := Option.some.inj H
                have p102 : 0 ≤ (x13_1 : Int) := of_decide_eq_true (by first | (with_reducible assumption) | assumption)
                have q102 : x13_1 < (l0_0.length : Int) := of_decide_eq_true (by first | (with_reducible assumption) | assumption)
                obtain ⟨ad102, A102_0, c102_0, e102, hx102_0, hl102_0, hi102_0⟩ := at_L1 HR0_0.out x13_1 p102 q102
                cases e102
                replace hx102_0 := (HB.out.cell (World.block_lt_of_cell? w _ hx102_0)).trans hx102_0
                have HR102_0 := Aside0.mk hi102_0
                have HC102_0 := Aside0.mk hl102_0
                clear hi102_0 hl102_0
                replace p102 := eq_true p102
                replace q102 := eq_true q102
                go_wp2
                go_ret
                exact ⟨by first | rfl | (simp [errW_none, errW_some] <;> rfl) | (simp [*, errW_none, errW_some] <;> rfl), by repeat (first | (with_reducible first | exact HB.out | apply below_alloc | apply pw_below_drewN | apply below_drew1 | refine below_set ?_ GE101.out) | exact HB.out)⟩
              · rw [if_neg c10] at H
                have c10b0 : decide (200 < ((rd_L1 l0_0 x13_1).length : Int)) = false := decide_eq_false c10
                have c10b1 : decide (200 < (rd_L1 l0_0 x13_1).length) = false := decide_eq_false (by omega)
                clear c10
                have H' := Aside0.mk H
                clear H
                have p102 : 0 ≤ (x13_1 : Int) := of_decide_eq_true (by first | (with_reducible assumption) | assumption)
                have q102 : x13_1 < (l0_0.length : Int) := of_decide_eq_true (by first | (with_reducible assumption) | assumption)
                obtain ⟨ad102, A102_0, c102_0, e102, hx102_0, hl102_0, hi102_0⟩ := at_L1 HR0_0.out x13_1 p102 q102
                cases e102
                replace hx102_0 := (HB.out.cell (World.block_lt_of_cell? w _ hx102_0)).trans hx102_0
                have HR102_0 := Aside0.mk hi102_0
                have HC102_0 := Aside0.mk hl102_0
                clear hi102_0 hl102_0
                replace p102 := eq_true p102
                replace q102 := eq_true q102
                go_wp2
                go_roundg k1
                case measure => have := HK1.out; omega
                case rel => exact ⟨(wrap64 (x3_1 + ((rd_L1 l0_0 x13_1).length : Int))), (wrap64 (x13_1 + 1)), (by first | rfl | (simp; done) | (simp [*]; done)), (by first | rfl | (simp; done) | (simp [*]; done)), H', ⟨by have := HK1.out; omega⟩, ⟨by (with_reducible repeat (first | refine blk_drewN ?_ _ | refine blk_drew ?_ | refine blk_alloc ?_ _)); exact BK101.out⟩, ⟨by repeat (first | (with_reducible first | exact HB.out | apply below_alloc | apply pw_below_drewN | apply below_drew1 | refine below_set ?_ GE101.out) | exact HB.out)⟩⟩
            · rw [if_neg c9] at H
              exact absurd H (by simp)
          · rw [if_neg c8] at H
            exact absurd H (by simp)
        · rw [if_neg c7] at H
          have c7b0 : decide (x13_1 < (l0_0.length : Int)) = false := decide_eq_false c7
          clear c7
          obtain rfl := Option.some.inj H
          go_wp2
          go_ret
          exact ⟨by first | rfl | (simp [errW_none, errW_some] <;> rfl) | (simp [*, errW_none, errW_some] <;> rfl), by repeat (first | (with_reducible first | exact HB.out | apply below_alloc | apply pw_below_drewN | apply below_drew1 | refine below_set ?_ GE101.out) | exact HB.out)⟩
end Go.Proofs.Ytbphjbfnnhfhlaa.PDigraphTells
end

section
/- Depth-first search in plain lists: the recursive visit, the machine with a stack, and what they find. -/
set_option linter.unusedVariables false
set_option linter.unusedSimpArgs false
namespace Go.Proofs.Ytbphjbfnnhfhlaa.Grf

/-- b can be reached from a. -/
inductive Reach (adj : Int → List Int) : Int → Int → Prop
  | refl (a : Int) : Reach adj a a
  | tail {a b c : Int} (h : Reach adj a b) (e : c ∈ adj b) : Reach adj a c
theorem Reach.trans {adj : Int → List Int} {a b c : Int} (h : Reach adj a b) (h2 : Reach adj b c) : Reach adj a c := by
  induction h2 with
  | refl => exact h
  | tail _ e ih => exact .tail ih e
theorem Reach.one {adj : Int → List Int} {a b : Int} (e : b ∈ adj a) : Reach adj a b := .tail (.refl a) e
theorem Reach.head {adj : Int → List Int} {a b c : Int} (e : b ∈ adj a) (h : Reach adj b c) : Reach adj a c := (Reach.one e).trans h
theorem Reach.mem {adj : Int → List Int} {V : List Int} (hV : ∀ a ∈ V, ∀ b ∈ adj a, b ∈ V) {a b : Int} (h : Reach adj a b) (ha : a ∈ V) : b ∈ V := by
  induction h with
  | refl => exact ha
  | tail _ e ih => exact hV _ ih _ e
theorem Reach.closed {adj : Int → List Int} {M : Int → Bool} {a b : Int} (h : Reach adj a b) (ha : M a = true) (hM : ∀ x, M x = true → ∀ y ∈ adj x, M y = true) : M b = true := by
  induction h with
  | refl => exact ha
  | tail _ e ih => exact hM _ ih _ e

abbrev Met := Int → Bool
def mark (m : Met) (n : Int) : Met := fun x => if x = n then true else m x
theorem mark_iff (m : Met) (n x : Int) : mark m n x = true ↔ x = n ∨ m x = true := by unfold mark; split <;> simp_all
def cnt (V : List Int) (m : Met) : Nat := (V.filter fun x => !m x).length
theorem filter_le {α : Type} (p q : α → Bool) : ∀ (l : List α), (∀ x ∈ l, p x = true → q x = true) → (l.filter p).length ≤ (l.filter q).length
  | [], _ => Nat.le_refl _
  | a :: l, h => by
    have ih := filter_le p q l (fun x hx => h x (List.mem_cons_of_mem _ hx))
    by_cases hp : p a = true
    · simp [hp, h a List.mem_cons_self hp]; exact ih
    · by_cases hq : q a = true
      · simp [hp, hq]; omega
      · simp [hp, hq]; exact ih
theorem filter_lt {α : Type} (p q : α → Bool) : ∀ (l : List α), (∀ x ∈ l, p x = true → q x = true) → (∃ x ∈ l, p x = false ∧ q x = true) → (l.filter p).length < (l.filter q).length
  | [], _, h => by obtain ⟨x, hx, _⟩ := h; cases hx
  | a :: l, h, he => by
    have ih := filter_le p q l (fun x hx => h x (List.mem_cons_of_mem _ hx))
    obtain ⟨x, hx, h1, h2⟩ := he
    rcases List.mem_cons.1 hx with rfl | hx
    · simp [h1, h2]; omega
    · have ih2 := filter_lt p q l (fun x hx => h x (List.mem_cons_of_mem _ hx)) ⟨x, hx, h1, h2⟩
      by_cases hp : p a = true
      · simp [hp, h a List.mem_cons_self hp]; exact ih2
      · by_cases hq : q a = true
        · simp [hp, hq]; omega
        · simp [hp, hq]; exact ih2
theorem cnt_mark {V : List Int} {m : Met} {n : Int} (hn : n ∈ V) (hm : m n = false) : cnt V (mark m n) < cnt V m := by
  refine filter_lt _ _ V (fun x _ h => ?_) ⟨n, hn, ?_, ?_⟩
  · have h1 : mark m n x = false := by simpa using h
    cases h2 : m x with
    | false => rfl
    | true => rw [(mark_iff m n x).2 (.inr h2)] at h1; cases h1
  · have := (mark_iff m n n).2 (.inl rfl)
    simp [this]
  · simp [hm]
theorem cnt_mono {V : List Int} {m m' : Met} (h : ∀ x, m x = true → m' x = true) : cnt V m' ≤ cnt V m := by
  refine filter_le _ _ V fun x _ hx => ?_
  cases h2 : m x with
  | false => rfl
  | true => have h1 := h x h2; simp [h1] at hx

mutual
/-- The search from n: the met nodes and the finished ones, in their order. -/
def visit (adj : Int → List Int) : Nat → Int → Met → List Int → Met × List Int
  | 0, _, met, done => (met, done)
  | k + 1, n, met, done => ((visits adj k (adj n) (mark met n) done).1, (visits adj k (adj n) (mark met n) done).2 ++ [n])
def visits (adj : Int → List Int) : Nat → List Int → Met → List Int → Met × List Int
  | _, [], met, done => (met, done)
  | k, m :: l, met, done => if met m = true then visits adj k l met done else visits adj k l (visit adj k m met done).1 (visit adj k m met done).2
end

/-- What a search over the roots L that began at (met, done) has found. -/
structure Found (adj : Int → List Int) (V : List Int) (R : Int → Prop) (L : List Int) (met : Met) (done : List Int) (met' : Met) (done' nw : List Int) : Prop where
  eq : done' = done ++ nw
  met_ : ∀ x, met' x = true ↔ met x = true ∨ x ∈ nw
  nd : nw.Nodup
  fresh : ∀ x ∈ nw, met x = false
  inV : ∀ x ∈ nw, x ∈ V
  reach : ∀ x ∈ nw, R x
  closed : ∀ x ∈ nw, ∀ y ∈ adj x, met' y = true
  roots : ∀ y ∈ L, met' y = true
  order : (∀ g, met g = true → g ∉ done → ∀ x, R x → Reach adj g x) → ∀ a x b, nw = a ++ x :: b → ∀ y ∈ adj x, y ∈ done ++ a ∨ Reach adj y x
  parent : ∀ a x b, nw = a ++ x :: b → x ∈ L ∨ ∃ m ∈ b, x ∈ adj m
theorem Found.nil {adj : Int → List Int} {V : List Int} {R : Int → Prop} {met : Met} {done : List Int} : Found adj V R [] met done met done [] := by
  refine ⟨by simp, by simp, by simp, by simp, by simp, by simp, by simp, by simp, ?_, ?_⟩
  · intro _ a x b h; simp at h
  · intro a x b h; simp at h
theorem split_append {α : Type} {l r a b : List α} {x : α} (h : l ++ r = a ++ x :: b) : (∃ b', l = a ++ x :: b' ∧ b = b' ++ r) ∨ ∃ a', r = a' ++ x :: b ∧ a = l ++ a' := by
  rcases List.append_eq_append_iff.1 h with ⟨a', h1, h2⟩ | ⟨c', h1, h2⟩
  · exact .inr ⟨a', h2, h1⟩
  · cases c' with
    | nil => exact .inr ⟨[], by simpa using h2.symm, by simpa using h1.symm⟩
    | cons y c' =>
      rw [List.cons_append] at h2
      injection h2 with h3 h4
      subst h3
      exact .inl ⟨c', h1, h4⟩
theorem Found.skip {adj : Int → List Int} {V : List Int} {R : Int → Prop} {L : List Int} {m : Int} {met met' : Met} {done done' nw : List Int} (hm : met m = true) (h : Found adj V R L met done met' done' nw) : Found adj V R (m :: L) met done met' done' nw := by
  refine ⟨h.eq, h.met_, h.nd, h.fresh, h.inV, h.reach, h.closed, ?_, h.order, ?_⟩
  · intro y hy
    rcases List.mem_cons.1 hy with rfl | hy
    · exact (h.met_ _).2 (.inl hm)
    · exact h.roots y hy
  · intro a x b e
    rcases h.parent a x b e with h1 | h1
    · exact .inl (List.mem_cons_of_mem _ h1)
    · exact .inr h1
theorem Found.join {adj : Int → List Int} {V : List Int} {R : Int → Prop} {L : List Int} {m : Int} {met m1 met' : Met} {done d1 done' n1 n2 : List Int}
    (h1 : Found adj V R [m] met done m1 d1 n1) (h2 : Found adj V R L m1 d1 met' done' n2) : Found adj V R (m :: L) met done met' done' (n1 ++ n2) := by
  refine ⟨by rw [h2.eq, h1.eq, List.append_assoc], fun x => ?_, ?_, fun x hx => ?_, fun x hx => ?_, fun x hx => ?_, fun x hx y hy => ?_, fun y hy => ?_, fun hg a x b e y hy => ?_, fun a x b e => ?_⟩
  · rw [h2.met_, h1.met_, List.mem_append, or_assoc]
  · rw [List.nodup_append]
    refine ⟨h1.nd, h2.nd, fun a ha b hb e => ?_⟩
    subst e
    have := h2.fresh a hb
    rw [(h1.met_ a).2 (.inr ha)] at this
    cases this
  · rcases List.mem_append.1 hx with hx | hx
    · exact h1.fresh x hx
    · cases e : met x with
      | false => rfl
      | true =>
        have := h2.fresh x hx
        rw [(h1.met_ x).2 (.inl e)] at this
        cases this
  · rcases List.mem_append.1 hx with hx | hx
    · exact h1.inV x hx
    · exact h2.inV x hx
  · rcases List.mem_append.1 hx with hx | hx
    · exact h1.reach x hx
    · exact h2.reach x hx
  · rcases List.mem_append.1 hx with hx | hx
    · exact (h2.met_ y).2 (.inl (h1.closed x hx y hy))
    · exact h2.closed x hx y hy
  · rcases List.mem_cons.1 hy with rfl | hy
    · exact (h2.met_ _).2 (.inl (h1.roots _ (by simp)))
    · exact h2.roots y hy
  · rcases split_append e with ⟨b', e1, rfl⟩ | ⟨a', e2, rfl⟩
    · exact h1.order hg a x b' e1 y hy
    · have hg2 : ∀ g, m1 g = true → g ∉ d1 → ∀ x, R x → Reach adj g x := by
        intro g hm1 hd1
        rw [h1.eq, List.mem_append] at hd1
        rcases (h1.met_ g).1 hm1 with h | h
        · exact hg g h (fun h3 => hd1 (.inl h3))
        · exact absurd (.inr h) hd1
      have := h2.order hg2 a' x b e2 y hy
      rw [h1.eq, List.append_assoc] at this
      exact this
  · rcases split_append e with ⟨b', e1, rfl⟩ | ⟨a', e2, rfl⟩
    · rcases h1.parent a x b' e1 with h | ⟨p, hp, he⟩
      · rw [List.mem_singleton] at h
        exact .inl (by rw [h]; exact List.mem_cons_self)
      · exact .inr ⟨p, List.mem_append.2 (.inl hp), he⟩
    · rcases h2.parent a' x b e2 with h | h
      · exact .inl (List.mem_cons_of_mem _ h)
      · exact .inr h
theorem Found.close {adj : Int → List Int} {V : List Int} {R : Int → Prop} {n : Int} {met met' : Met} {done done' nw : List Int} (hn : n ∈ V) (hm : met n = false) (hR : R n)
    (h : Found adj V (Reach adj n) (adj n) (mark met n) done met' done' nw) (hRe : ∀ x, Reach adj n x → R x) : Found adj V R [n] met done met' (done' ++ [n]) (nw ++ [n]) := by
  have hnn : n ∉ nw := fun hx => by
    have := h.fresh n hx
    rw [(mark_iff met n n).2 (.inl rfl)] at this
    cases this
  refine ⟨by rw [h.eq, List.append_assoc], fun x => ?_, ?_, fun x hx => ?_, fun x hx => ?_, fun x hx => ?_, fun x hx y hy => ?_, fun y hy => ?_, fun hg a x b e y hy => ?_, fun a x b e => ?_⟩
  · rw [h.met_, mark_iff, List.mem_append, List.mem_singleton]
    constructor
    · rintro ((h1 | h1) | h1)
      · exact .inr (.inr h1)
      · exact .inl h1
      · exact .inr (.inl h1)
    · rintro (h1 | h1 | h1)
      · exact .inl (.inr h1)
      · exact .inr h1
      · exact .inl (.inl h1)
  · rw [List.nodup_append]
    refine ⟨h.nd, by simp, fun a ha b hb e => ?_⟩
    rw [List.mem_singleton] at hb
    subst e
    exact hnn (by rw [← hb]; exact ha)
  · rcases List.mem_append.1 hx with hx | hx
    · cases e : met x with
      | false => rfl
      | true =>
        have := h.fresh x hx
        rw [(mark_iff met n x).2 (.inr e)] at this
        cases this
    · rw [List.mem_singleton] at hx; rw [hx]; exact hm
  · rcases List.mem_append.1 hx with hx | hx
    · exact h.inV x hx
    · rw [List.mem_singleton] at hx; rw [hx]; exact hn
  · rcases List.mem_append.1 hx with hx | hx
    · exact hRe x (h.reach x hx)
    · rw [List.mem_singleton] at hx; rw [hx]; exact hR
  · rcases List.mem_append.1 hx with hx | hx
    · exact h.closed x hx y hy
    · rw [List.mem_singleton] at hx; rw [hx] at hy; exact h.roots y hy
  · rw [List.mem_singleton] at hy
    rw [hy]
    exact (h.met_ n).2 (.inl ((mark_iff met n n).2 (.inl rfl)))
  · have hg2 : ∀ g, mark met n g = true → g ∉ done → ∀ x, Reach adj n x → Reach adj g x := by
      intro g hm1 hd1 x hx
      rcases (mark_iff met n g).1 hm1 with rfl | h1
      · exact hx
      · exact (hg g h1 hd1 n hR).trans hx
    rcases split_append e with ⟨b', e1, rfl⟩ | ⟨a', e2, rfl⟩
    · exact h.order hg2 a x b' e1 y hy
    · cases a' with
      | cons z a' => simp at e2
      | nil =>
        simp at e2
        obtain ⟨rfl, rfl⟩ := e2
        rw [List.append_nil]
        have hm2 := h.roots y hy
        rcases (h.met_ y).1 hm2 with h1 | h1
        · by_cases hd : y ∈ done
          · exact .inl (List.mem_append.2 (.inl hd))
          · exact .inr (hg2 y h1 hd n (.refl n))
        · exact .inl (List.mem_append.2 (.inr h1))
  · rcases split_append e with ⟨b', e1, rfl⟩ | ⟨a', e2, rfl⟩
    · rcases h.parent a x b' e1 with h1 | ⟨p, hp, he⟩
      · exact .inr ⟨n, by simp, h1⟩
      · exact .inr ⟨p, List.mem_append.2 (.inl hp), he⟩
    · cases a' with
      | cons z a' => simp at e2
      | nil =>
        simp at e2
        exact .inl (by simp [e2.1])

theorem cnt_pos {V : List Int} {m : Met} {n : Int} (hn : n ∈ V) (hm : m n = false) : 0 < cnt V m :=
  List.length_pos_of_mem (List.mem_filter.2 ⟨hn, by simp [hm]⟩)
theorem visits_found {adj : Int → List Int} {V : List Int} {k : Nat}
    (ih : ∀ (n : Int) (met : Met) (done : List Int) (R : Int → Prop), n ∈ V → met n = false → cnt V met ≤ k → (∀ x, Reach adj n x → R x) → ∃ nw, Found adj V R [n] met done (visit adj k n met done).1 (visit adj k n met done).2 nw) :
    ∀ (L : List Int) (met : Met) (done : List Int) (R : Int → Prop), (∀ x ∈ L, x ∈ V) → cnt V met ≤ k → (∀ x ∈ L, ∀ y, Reach adj x y → R y) → ∃ nw, Found adj V R L met done (visits adj k L met done).1 (visits adj k L met done).2 nw
  | [], met, done, R, _, _, _ => ⟨[], by rw [visits]; exact Found.nil⟩
  | m :: L, met, done, R, hL, hc, hR => by
    rw [visits]
    cases e : met m with
    | true =>
      rw [if_pos rfl]
      obtain ⟨nw, h⟩ := visits_found ih L met done R (fun x hx => hL x (List.mem_cons_of_mem _ hx)) hc (fun x hx => hR x (List.mem_cons_of_mem _ hx))
      exact ⟨nw, h.skip e⟩
    | false =>
      rw [if_neg (by simp)]
      obtain ⟨n1, h1⟩ := ih m met done R (hL m List.mem_cons_self) e hc (hR m List.mem_cons_self)
      obtain ⟨n2, h2⟩ := visits_found ih L (visit adj k m met done).1 (visit adj k m met done).2 R (fun x hx => hL x (List.mem_cons_of_mem _ hx)) (Nat.le_trans (cnt_mono fun x hx => (h1.met_ x).2 (.inl hx)) hc) (fun x hx => hR x (List.mem_cons_of_mem _ hx))
      exact ⟨n1 ++ n2, h1.join h2⟩
theorem visit_found {adj : Int → List Int} {V : List Int} (hV : ∀ a ∈ V, ∀ b ∈ adj a, b ∈ V) : ∀ (k : Nat) (n : Int) (met : Met) (done : List Int) (R : Int → Prop), n ∈ V → met n = false → cnt V met ≤ k → (∀ x, Reach adj n x → R x) →
    ∃ nw, Found adj V R [n] met done (visit adj k n met done).1 (visit adj k n met done).2 nw ∧ ∃ i, nw = i ++ [n]
  | 0, n, met, done, R, hn, hm, hc, _ => by have := cnt_pos hn hm; omega
  | k + 1, n, met, done, R, hn, hm, hc, hR => by
    rw [visit]
    have hc2 := cnt_mark hn hm
    obtain ⟨nw, h⟩ := visits_found (k := k) (V := V) (fun n' met' done' R' a b c d => by
      obtain ⟨nw, h, _⟩ := visit_found hV k n' met' done' R' a b c d
      exact ⟨nw, h⟩) (adj n) (mark met n) done (Reach adj n) (hV n hn) (by omega) (fun x hx y hy => Reach.head hx hy)
    exact ⟨nw ++ [n], h.close hn hm (hR n (.refl n)) hR, nw, rfl⟩

/-! ### The machine with a stack. -/
def scan (l : List Int) (met : Met) (i : Nat) : Option Nat :=
  if h : i < l.length then if met l[i] = true then scan l met (i + 1) else some i else none
termination_by l.length - i
abbrev St := List (Int × Nat) × Met × List Int
def step (adj : Int → List Int) : St → St
  | ([], met, out) => ([], met, out)
  | ((n, i) :: S, met, out) => match scan (adj n) met i with
    | some j => (((adj n).getD j 0, 0) :: (n, j + 1) :: S, mark met ((adj n).getD j 0), out)
    | none => (S, met, out ++ [n])
def iter (adj : Int → List Int) : Nat → St → St
  | 0, s => s
  | q + 1, s => iter adj q (step adj s)
theorem iter_add (adj : Int → List Int) : ∀ (a b : Nat) (s : St), iter adj (a + b) s = iter adj b (iter adj a s)
  | 0, b, s => by rw [Nat.zero_add]; rfl
  | a + 1, b, s => by rw [show a + 1 + b = (a + b) + 1 by omega]; exact iter_add adj a b (step adj s)
theorem iter_nil (adj : Int → List Int) (met : Met) (out : List Int) : ∀ q, iter adj q ([], met, out) = ([], met, out)
  | 0 => rfl
  | q + 1 => iter_nil adj met out q
theorem scan_met {l : List Int} {met : Met} {i : Nat} (h : i < l.length) (hm : met l[i] = true) : scan l met i = scan l met (i + 1) := by
  rw [scan, dif_pos h, if_pos hm]
theorem scan_new {l : List Int} {met : Met} {i : Nat} (h : i < l.length) (hm : met l[i] = false) : scan l met i = some i := by
  rw [scan, dif_pos h, if_neg (by simp [hm])]
theorem scan_end {l : List Int} {met : Met} {i : Nat} (h : ¬ i < l.length) : scan l met i = none := by
  rw [scan, dif_neg h]
theorem step_met {adj : Int → List Int} {n : Int} {i : Nat} {S : List (Int × Nat)} {met : Met} {out : List Int} (h : i < (adj n).length) (hm : met (adj n)[i] = true) : step adj ((n, i) :: S, met, out) = step adj ((n, i + 1) :: S, met, out) := by
  simp only [step, scan_met h hm]
theorem step_new {adj : Int → List Int} {n : Int} {i : Nat} {S : List (Int × Nat)} {met : Met} {out : List Int} (h : i < (adj n).length) (hm : met (adj n)[i] = false) : step adj ((n, i) :: S, met, out) = (((adj n)[i], 0) :: (n, i + 1) :: S, mark met (adj n)[i], out) := by
  simp only [step, scan_new h hm, List.getD_eq_getElem?_getD, List.getElem?_eq_getElem h, Option.getD_some]
theorem step_end {adj : Int → List Int} {n : Int} {i : Nat} {S : List (Int × Nat)} {met : Met} {out : List Int} (h : ¬ i < (adj n).length) : step adj ((n, i) :: S, met, out) = (S, met, out ++ [n]) := by
  simp only [step, scan_end h]
theorem machine {adj : Int → List Int} {V : List Int} (hV : ∀ a ∈ V, ∀ b ∈ adj a, b ∈ V) : ∀ (k : Nat) (n : Int) (met : Met) (done : List Int) (S : List (Int × Nat)), n ∈ V → met n = false → cnt V met ≤ k →
    ∃ q, iter adj (q + 1) ((n, 0) :: S, mark met n, done) = (S, (visit adj k n met done).1, (visit adj k n met done).2)
  | 0, n, met, done, S, hn, hm, hc => by have := cnt_pos hn hm; omega
  | k + 1, n, met, done, S, hn, hm, hc => by
    rw [visit]
    have hc2 := cnt_mark hn hm
    have key : ∀ (L : List Int) (i : Nat) (met : Met) (done : List Int), L = (adj n).drop i → cnt V met ≤ k →
        ∃ q, iter adj (q + 1) ((n, i) :: S, met, done) = (S, (visits adj k L met done).1, (visits adj k L met done).2 ++ [n]) := by
      intro L
      induction L with
      | nil =>
        intro i met done hL _
        have h : ¬ i < (adj n).length := fun h => by have := List.drop_eq_getElem_cons h; rw [← hL] at this; cases this
        exact ⟨0, by rw [visits]; show iter adj 0 (step adj ((n, i) :: S, met, done)) = _; rw [step_end h]; rfl⟩
      | cons m L ih =>
        intro i met done hL hc3
        have h : i < (adj n).length := by
          refine Classical.byContradiction fun h => ?_
          rw [List.drop_eq_nil_of_le (by omega)] at hL
          cases hL
        rw [List.drop_eq_getElem_cons h] at hL
        injection hL with h1 h2
        have hmV : m ∈ V := by rw [h1]; exact hV n hn _ (List.getElem_mem h)
        rw [visits]
        cases e : met m with
        | true =>
          rw [if_pos rfl]
          obtain ⟨q, hq⟩ := ih (i + 1) met done h2 hc3
          refine ⟨q, ?_⟩
          rw [← hq]
          show iter adj q (step adj _) = iter adj q (step adj _)
          rw [step_met h (by rw [← h1]; exact e)]
        | false =>
          rw [if_neg (by simp)]
          obtain ⟨q1, hq1⟩ := machine hV k m met done ((n, i + 1) :: S) hmV e hc3
          obtain ⟨nw, hf, _⟩ := visit_found hV k m met done (fun _ => True) hmV e hc3 (fun _ _ => trivial)
          obtain ⟨q2, hq2⟩ := ih (i + 1) (visit adj k m met done).1 (visit adj k m met done).2 h2 (Nat.le_trans (cnt_mono fun x hx => (hf.met_ x).2 (.inl hx)) hc3)
          refine ⟨(q1 + 1) + (q2 + 1), ?_⟩
          show iter adj ((q1 + 1) + (q2 + 1)) (step adj _) = _
          rw [step_new h (by rw [← h1]; exact e), ← h1, iter_add, hq1, hq2]
    obtain ⟨q, hq⟩ := key (adj n) 0 (mark met n) done (by simp) (by omega)
    exact ⟨q, hq⟩
end Go.Proofs.Ytbphjbfnnhfhlaa.Grf
end

section
/- Distances in plain lists: what fixes them, the search by a queue, the rounds of the reference, shortest paths. -/
set_option linter.unusedVariables false
set_option linter.unusedSimpArgs false
namespace Go.Proofs.Ytbphjbfnnhfhlaa.Grf

inductive Walk (adj : Int → List Int) : Nat → Int → Int → Prop
  | zero (a : Int) : Walk adj 0 a a
  | cons {k : Nat} {a b c : Int} (e : b ∈ adj a) (h : Walk adj k b c) : Walk adj (k + 1) a c
theorem Walk.reach {adj : Int → List Int} {k : Nat} {a b : Int} (h : Walk adj k a b) : Reach adj a b := by
  induction h with
  | zero a => exact .refl a
  | cons e _ ih => exact Reach.head e ih
theorem Walk.snoc {adj : Int → List Int} {k : Nat} {a b c : Int} (h : Walk adj k a b) (e : c ∈ adj b) : Walk adj (k + 1) a c := by
  induction h with
  | zero a => exact .cons e (.zero _)
  | cons e1 _ ih => exact .cons e1 (ih e)
theorem Reach.walk {adj : Int → List Int} {a b : Int} (h : Reach adj a b) : ∃ k, Walk adj k a b := by
  induction h with
  | refl => exact ⟨0, .zero _⟩
  | tail _ e ih => obtain ⟨k, h⟩ := ih; exact ⟨k + 1, h.snoc e⟩

/-- f tells the distances to t. -/
structure Far (adj : Int → List Int) (V : List Int) (t : Int) (f : Int → Int) : Prop where
  zero : f t = 0
  none_ : ∀ a ∈ V, f a < 0 → f a = -1
  walk : ∀ a ∈ V, 0 ≤ f a → Walk adj (f a).toNat a t
  edge : ∀ a ∈ V, ∀ b ∈ adj a, 0 ≤ f b → 0 ≤ f a ∧ f a ≤ f b + 1
theorem Far.least {adj : Int → List Int} {V : List Int} {t : Int} {f : Int → Int} (hV : ∀ a ∈ V, ∀ b ∈ adj a, b ∈ V) (h : Far adj V t f) : ∀ {k : Nat} {a : Int}, a ∈ V → Walk adj k a t → 0 ≤ f a ∧ f a ≤ k
  | 0, a, _, hw => by
    cases hw
    rw [h.zero]; omega
  | k + 1, a, ha, hw => by
    cases hw with
    | cons e hw =>
    have h1 := h.least hV (hV a ha _ e) hw
    have h2 := h.edge a ha _ e h1.1
    omega
theorem Far.uniq {adj : Int → List Int} {V : List Int} {t : Int} {f g : Int → Int} (hV : ∀ a ∈ V, ∀ b ∈ adj a, b ∈ V) (hf : Far adj V t f) (hg : Far adj V t g) (a : Int) (ha : a ∈ V) : f a = g a := by
  by_cases h1 : 0 ≤ f a
  · have h2 := hg.least hV ha (hf.walk a ha h1)
    have h3 := hf.least hV ha (hg.walk a ha h2.1)
    omega
  · by_cases h2 : 0 ≤ g a
    · have h3 := hf.least hV ha (hg.walk a ha h2)
      omega
    · rw [hf.none_ a ha (by omega), hg.none_ a ha (by omega)]
theorem Far.reach {adj : Int → List Int} {V : List Int} {t : Int} {f : Int → Int} (hV : ∀ a ∈ V, ∀ b ∈ adj a, b ∈ V) (h : Far adj V t f) {a : Int} (ha : a ∈ V) : 0 ≤ f a ↔ Reach adj a t :=
  ⟨fun h1 => (h.walk a ha h1).reach, fun h1 => by obtain ⟨k, h2⟩ := h1.walk; exact (h.least hV ha h2).1⟩

/-! ### The search by a queue. -/
def put (f : Int → Int) (p v : Int) : Int → Int := fun x => if x = p then v else f x
theorem put_same (f : Int → Int) (p v : Int) : put f p v p = v := by simp [put]
theorem put_other (f : Int → Int) {p x : Int} (v : Int) (h : x ≠ p) : put f p v x = f x := by simp [put, h]
def relax (x : Int) : List Int → (Int → Int) → List Int → (Int → Int) × List Int
  | [], f, q => (f, q)
  | p :: ps, f, q => if f p < 0 then relax x ps (put f p (f x + 1)) (q ++ [p]) else relax x ps f q
def cneg (V : List Int) (f : Int → Int) : Nat := (V.filter fun x => decide (f x < 0)).length
theorem cneg_put {V : List Int} {f : Int → Int} {p v : Int} (hp : p ∈ V) (h : f p < 0) (hv : 0 ≤ v) : cneg V (put f p v) < cneg V f := by
  refine filter_lt _ _ V (fun x _ hx => ?_) ⟨p, hp, ?_, ?_⟩
  · by_cases e : x = p
    · rw [e, put_same] at hx; simp at hx; omega
    · rw [put_other _ _ e] at hx; exact hx
  · rw [put_same]; simp; exact hv
  · simpa using h
/-- What holds while the queue is x :: q and the predecessors ps of x are still to be seen. -/
structure BJ (adj pre : Int → List Int) (V : List Int) (t x : Int) (ps : List Int) (f : Int → Int) (q : List Int) : Prop where
  zero : f t = 0
  none_ : ∀ a, f a < 0 → f a = -1
  walk : ∀ a, 0 ≤ f a → Walk adj (f a).toNat a t
  fx : 0 ≤ f x
  sorted : (x :: q).Pairwise (fun a b => f a ≤ f b)
  nonneg : ∀ a ∈ q, 0 ≤ f a
  high : ∀ a, 0 ≤ f a → f a ≤ f x + 1
  done : ∀ a, 0 ≤ f a → a ∉ x :: q → ∀ p ∈ pre a, 0 ≤ f p ∧ f p ≤ f a + 1
  seen : ∀ p ∈ pre x, p ∉ ps → 0 ≤ f p
  qV : ∀ a ∈ x :: q, a ∈ V
theorem relax_inv {adj pre : Int → List Int} {V : List Int} {t x : Int} (hpre : ∀ a ∈ V, ∀ p, p ∈ pre a ↔ p ∈ V ∧ a ∈ adj p) : ∀ (ps : List Int) (f : Int → Int) (q : List Int), (∀ p ∈ ps, p ∈ pre x) → BJ adj pre V t x ps f q →
    BJ adj pre V t x [] (relax x ps f q).1 (relax x ps f q).2 ∧ 2 * cneg V (relax x ps f q).1 + (relax x ps f q).2.length ≤ 2 * cneg V f + q.length
  | [], f, q, _, h => ⟨h, Nat.le_refl _⟩
  | p :: ps, f, q, hps, h => by
    rw [relax]
    have hx : x ∈ V := h.qV x List.mem_cons_self
    have hpp := hps p List.mem_cons_self
    have hpV := ((hpre x hx p).1 hpp).1
    have hpe := ((hpre x hx p).1 hpp).2
    by_cases hp : f p < 0
    · rw [if_pos hp]
      have hpx : x ≠ p := fun e => by have := h.fx; rw [e] at this; omega
      have hpq : ∀ a, 0 ≤ f a → a ≠ p := fun a ha e => by rw [e] at ha; omega
      have hfx : put f p (f x + 1) x = f x := put_other _ _ hpx
      have h2 : BJ adj pre V t x ps (put f p (f x + 1)) (q ++ [p]) := by
        have hfx0 := h.fx
        refine ⟨?_, fun a ha => ?_, fun a ha => ?_, ?_, ?_, fun a ha => ?_, fun a ha => ?_, fun a ha hn r hr => ?_, fun r hr hn => ?_, fun a ha => ?_⟩
        · rw [put_other _ _ (hpq t (by rw [h.zero]; omega))]; exact h.zero
        · by_cases e : a = p
          · rw [e, put_same] at ha; omega
          · rw [put_other _ _ e] at ha ⊢; exact h.none_ a ha
        · by_cases e : a = p
          · rw [e, put_same]
            rw [show (f x + 1).toNat = (f x).toNat + 1 by omega]
            exact .cons hpe (h.walk x hfx0)
          · rw [put_other _ _ e] at ha ⊢; exact h.walk a ha
        · rw [hfx]; exact hfx0
        · have hs := h.sorted
          rw [show x :: (q ++ [p]) = (x :: q) ++ [p] from rfl, List.pairwise_append]
          have hall : ∀ a ∈ x :: q, 0 ≤ f a := fun a ha => by
            rcases List.mem_cons.1 ha with rfl | ha
            · exact hfx0
            · exact h.nonneg a ha
          refine ⟨?_, by simp, fun a ha b hb => ?_⟩
          · refine List.Pairwise.imp_of_mem (fun {a b} ha hb hab => ?_) hs
            rw [put_other _ _ (hpq a (hall a ha)), put_other _ _ (hpq b (hall b hb))]
            exact hab
          · rw [List.mem_singleton] at hb
            rw [hb, put_same, put_other _ _ (hpq a (hall a ha))]
            exact h.high a (hall a ha)
        · rcases List.mem_append.1 ha with ha | ha
          · rw [put_other _ _ (hpq a (h.nonneg a ha))]; exact h.nonneg a ha
          · rw [List.mem_singleton] at ha; rw [ha, put_same]; omega
        · rw [hfx]
          by_cases e : a = p
          · rw [e, put_same]; omega
          · rw [put_other _ _ e] at ha ⊢; exact h.high a ha
        · have e : a ≠ p := fun e => hn (by rw [e]; simp)
          rw [put_other _ _ e] at ha ⊢
          have h3 := h.done a ha (fun h4 => hn (by rw [show x :: (q ++ [p]) = (x :: q) ++ [p] from rfl]; exact List.mem_append.2 (.inl h4))) r hr
          rw [put_other _ _ (hpq r h3.1)]
          exact h3
        · by_cases e : r = p
          · rw [e, put_same]; omega
          · rw [put_other _ _ e]
            exact h.seen r hr (fun h4 => by rcases List.mem_cons.1 h4 with h5 | h5; exact e h5; exact hn h5)
        · rw [show x :: (q ++ [p]) = (x :: q) ++ [p] from rfl] at ha
          rcases List.mem_append.1 ha with ha | ha
          · exact h.qV a ha
          · rw [List.mem_singleton] at ha; rw [ha]; exact hpV
      obtain ⟨h3, h4⟩ := relax_inv hpre ps _ _ (fun r hr => hps r (List.mem_cons_of_mem _ hr)) h2
      refine ⟨h3, ?_⟩
      have h5 := cneg_put (V := V) (v := f x + 1) hpV hp (by have := h.fx; omega)
      simp only [List.length_append, List.length_cons, List.length_nil] at h4
      omega
    · rw [if_neg hp]
      refine relax_inv hpre ps f q (fun r hr => hps r (List.mem_cons_of_mem _ hr)) ⟨h.zero, h.none_, h.walk, h.fx, h.sorted, h.nonneg, h.high, h.done, fun r hr hn => ?_, h.qV⟩
      by_cases e : r = p
      · rw [e]; omega
      · exact h.seen r hr (fun h4 => by rcases List.mem_cons.1 h4 with h5 | h5; exact e h5; exact hn h5)
/-- What holds ahead of a round of the queue. -/
structure BI (adj pre : Int → List Int) (V : List Int) (t : Int) (f : Int → Int) (q : List Int) : Prop where
  zero : f t = 0
  none_ : ∀ a, f a < 0 → f a = -1
  walk : ∀ a, 0 ≤ f a → Walk adj (f a).toNat a t
  sorted : q.Pairwise (fun a b => f a ≤ f b)
  nonneg : ∀ a ∈ q, 0 ≤ f a
  high : ∀ x q', q = x :: q' → ∀ a, 0 ≤ f a → f a ≤ f x + 1
  done : ∀ a, 0 ≤ f a → a ∉ q → ∀ p ∈ pre a, 0 ≤ f p ∧ f p ≤ f a + 1
  qV : ∀ a ∈ q, a ∈ V
theorem BI.round {adj pre : Int → List Int} {V : List Int} {t x : Int} {f : Int → Int} {q : List Int} (hpre : ∀ a ∈ V, ∀ p, p ∈ pre a ↔ p ∈ V ∧ a ∈ adj p) (h : BI adj pre V t f (x :: q)) :
    BI adj pre V t (relax x (pre x) f q).1 (relax x (pre x) f q).2 ∧ 2 * cneg V (relax x (pre x) f q).1 + (relax x (pre x) f q).2.length ≤ 2 * cneg V f + q.length := by
  have h1 : BJ adj pre V t x (pre x) f q := ⟨h.zero, h.none_, h.walk, h.nonneg x List.mem_cons_self, h.sorted, fun a ha => h.nonneg a (List.mem_cons_of_mem _ ha), h.high x q rfl, h.done, fun p hp hn => absurd hp hn, h.qV⟩
  obtain ⟨h2, h3⟩ := relax_inv hpre (pre x) f q (fun _ h => h) h1
  refine ⟨⟨h2.zero, h2.none_, h2.walk, (List.pairwise_cons.1 h2.sorted).2, h2.nonneg, fun y q' e a ha => ?_, fun a ha hn p hp => ?_, fun a ha => h2.qV a (List.mem_cons_of_mem _ ha)⟩, h3⟩
  · have h4 := h2.high a ha
    have h5 := (List.pairwise_cons.1 h2.sorted).1 y (by rw [e]; exact List.mem_cons_self)
    omega
  · by_cases e : a = x
    · subst e
      have h4 := h2.seen p hp (by simp)
      exact ⟨h4, h2.high p h4⟩
    · exact h2.done a ha (fun h4 => by rcases List.mem_cons.1 h4 with h5 | h5; exact e h5; exact hn h5) p hp
theorem BI.start {adj pre : Int → List Int} {V : List Int} {t : Int} (ht : t ∈ V) : BI adj pre V t (put (fun _ => -1) t 0) [t] := by
  have h0 : ∀ a, 0 ≤ put (fun _ => -1) t 0 a → a = t := fun a ha => Classical.byContradiction fun e => by rw [put_other _ _ e] at ha; omega
  refine ⟨put_same _ _ _, fun a ha => ?_, fun a ha => ?_, by simp, fun a ha => ?_, fun x q' e a ha => ?_, fun a ha hn => ?_, fun a ha => ?_⟩
  · by_cases e : a = t
    · rw [e, put_same] at ha; omega
    · rw [put_other _ _ e]
  · rw [h0 a ha, put_same]; exact .zero t
  · rw [List.mem_singleton] at ha; rw [ha, put_same]; omega
  · injection e with e1 e2
    rw [h0 a ha, ← e1, put_same]; omega
  · exact absurd (by rw [h0 a ha]; simp) hn
  · rw [List.mem_singleton] at ha; rw [ha]; exact ht
theorem BI.far {adj pre : Int → List Int} {V : List Int} {t : Int} {f : Int → Int} (hV : ∀ a ∈ V, ∀ b ∈ adj a, b ∈ V) (hpre : ∀ a ∈ V, ∀ p, p ∈ pre a ↔ p ∈ V ∧ a ∈ adj p) (h : BI adj pre V t f []) : Far adj V t f :=
  ⟨h.zero, fun a _ => h.none_ a, fun a _ => h.walk a, fun a ha b hb hf => h.done b hf (by simp) a ((hpre b (hV a ha b hb) a).2 ⟨ha, hb⟩)⟩

/-! ### Shortest paths. -/
/-- The least successor that is nearer by one. -/
def near (f : Int → Int) (d : Int) : List Int → Int → Int
  | [], nx => nx
  | s :: l, nx => near f d l (if f s = d - 1 ∧ (nx < 0 ∨ s < nx) then s else nx)
theorem near_spec (f : Int → Int) (d : Int) : ∀ (l : List Int) (nx : Int), (∀ s ∈ l, 0 ≤ s) → (nx < 0 ∨ (0 ≤ nx ∧ f nx = d - 1)) →
    (near f d l nx < 0 ∧ nx < 0 ∧ ∀ s ∈ l, f s ≠ d - 1) ∨ (0 ≤ near f d l nx ∧ f (near f d l nx) = d - 1 ∧ (near f d l nx = nx ∨ near f d l nx ∈ l) ∧ (0 ≤ nx → near f d l nx ≤ nx) ∧ ∀ s ∈ l, f s = d - 1 → near f d l nx ≤ s)
  | [], nx, _, h => by
    rw [near]
    rcases h with h | h
    · exact .inl ⟨h, h, by simp⟩
    · exact .inr ⟨h.1, h.2, .inl rfl, fun _ => Int.le_refl _, by simp⟩
  | s :: l, nx, hl, h => by
    rw [near]
    have hs := hl s List.mem_cons_self
    by_cases hc : f s = d - 1 ∧ (nx < 0 ∨ s < nx)
    · rw [if_pos hc]
      rcases near_spec f d l s (fun x hx => hl x (List.mem_cons_of_mem _ hx)) (.inr ⟨hs, hc.1⟩) with h1 | h1
      · omega
      · refine .inr ⟨h1.1, h1.2.1, ?_, fun h0 => ?_, fun x hx hfx => ?_⟩
        · rcases h1.2.2.1 with h2 | h2
          · exact .inr (by rw [h2]; exact List.mem_cons_self)
          · exact .inr (List.mem_cons_of_mem _ h2)
        · have := h1.2.2.2.1 hs; omega
        · rcases List.mem_cons.1 hx with rfl | hx
          · exact h1.2.2.2.1 hs
          · exact h1.2.2.2.2 x hx hfx
    · rw [if_neg hc]
      rcases near_spec f d l nx (fun x hx => hl x (List.mem_cons_of_mem _ hx)) h with h1 | h1
      · refine .inl ⟨h1.1, h1.2.1, fun x hx hfx => ?_⟩
        rcases List.mem_cons.1 hx with rfl | hx
        · exact hc ⟨hfx, .inl h1.2.1⟩
        · exact h1.2.2 x hx hfx
      · refine .inr ⟨h1.1, h1.2.1, ?_, h1.2.2.2.1, fun x hx hfx => ?_⟩
        · rcases h1.2.2.1 with h2 | h2
          · exact .inl h2
          · exact .inr (List.mem_cons_of_mem _ h2)
        · rcases List.mem_cons.1 hx with rfl | hx
          · by_cases hn : 0 ≤ nx
            · have h3 := h1.2.2.2.1 hn
              have : ¬ x < nx := fun h4 => hc ⟨hfx, .inr h4⟩
              omega
            · exact absurd ⟨hfx, .inl (by omega)⟩ hc
          · exact h1.2.2.2.2 x hx hfx
def path (adj : Int → List Int) (f : Int → Int) : Nat → Int → List Int
  | 0, n => [n]
  | k + 1, n => n :: path adj f k (near f (f n) (adj n) (-1))
theorem Far.next {adj : Int → List Int} {V : List Int} {t : Int} {f : Int → Int} (hV : ∀ a ∈ V, ∀ b ∈ adj a, b ∈ V) (h0 : ∀ a ∈ V, 0 ≤ a) (h : Far adj V t f) {n : Int} (hn : n ∈ V) (hp : 0 < f n) :
    near f (f n) (adj n) (-1) ∈ adj n ∧ f (near f (f n) (adj n) (-1)) = f n - 1 ∧ ∀ s ∈ adj n, f s = f n - 1 → near f (f n) (adj n) (-1) ≤ s := by
  rcases near_spec f (f n) (adj n) (-1) (fun s hs => h0 s (hV n hn s hs)) (.inl (by omega)) with h1 | h1
  · exfalso
    have hw := h.walk n hn (by omega)
    obtain ⟨k, hk⟩ : ∃ k, (f n).toNat = k + 1 := ⟨(f n).toNat - 1, by omega⟩
    rw [hk] at hw
    cases hw with
    | cons e hw =>
    rename_i b
    have hb := hV n hn b e
    have h2 := h.least hV hb hw
    have h3 := h.edge n hn b e h2.1
    exact h1.2.2 b e (by omega)
  · refine ⟨?_, h1.2.1, h1.2.2.2.2⟩
    rcases h1.2.2.1 with h2 | h2
    · omega
    · exact h2
end Go.Proofs.Ytbphjbfnnhfhlaa.Grf
end

section
/- The small printed functions of chapter 6 in plain lists. -/
set_option linter.unusedVariables false
set_option linter.unusedSimpArgs false
namespace Go.Proofs.Ytbphjbfnnhfhlaa
open Go.RowKit Go.Proofs.YtbphjbfnnhfhlaaW.PrintWords Go.Proofs.Ytbphjbfnnhfhlaa.PDigraphTells

/-- From some fuel on, g answers r. -/
def Ev {α : Type} (g : Nat → Option α) (r : α) : Prop := ∃ K, ∀ k, K ≤ k → g k = some r
theorem Ev.suc {α : Type} {g h : Nat → Option α} {r : α} (e : ∀ k, g (k + 1) = h k) (H : Ev h r) : Ev g r := by
  obtain ⟨K, hK⟩ := H
  refine ⟨K + 1, fun k hk => ?_⟩
  obtain ⟨m, rfl⟩ : ∃ m, k = m + 1 := ⟨k - 1, by omega⟩
  rw [e]
  exact hK m (by omega)
theorem Ev.ret {α : Type} (r : α) : Ev (fun _ => some r) r := ⟨0, fun _ _ => rfl⟩
theorem Ev.bind {α β : Type} {g : Nat → Option α} {G : Nat → α → Option β} {a : α} {r : β} (h : Ev g a) (H : Ev (fun k => G k a) r) : Ev (fun k => (g k).bind (G k)) r := by
  obtain ⟨K, hK⟩ := h
  obtain ⟨L, hL⟩ := H
  refine ⟨K + L, fun k hk => ?_⟩
  show (g k).bind (G k) = some r
  rw [hK k (by omega), Option.bind_some]
  exact hL k (by omega)
theorem Ev.get {α : Type} {g : Nat → Option α} {r : α} (h : Ev g r) : ∃ k, g k = some r := by
  obtain ⟨K, hK⟩ := h
  exact ⟨K, hK K (Nat.le_refl _)⟩
theorem Ev.of {α : Type} {g h : Nat → Option α} {r : α} (e : ∀ k, g k = h k) (H : Ev h r) : Ev g r := by
  obtain ⟨K, hK⟩ := H
  exact ⟨K, fun k hk => by rw [e]; exact hK k hk⟩

theorem rd_get (l : List Int) (i : Nat) (h : i < l.length) : rd l (i : Int) = l[i] := by
  simp [rd, h]
theorem rd1_get (l : List (List Int)) (i : Nat) (h : i < l.length) : rd_L1 l (i : Int) = l[i] := by
  simp [rd_L1, h]
theorem w64 (i n : Nat) (h : i < n) (hn : n < 4611686018427387904) : wrap64 ((i : Int) + 1) = ((i + 1 : Nat) : Int) := by
  unfold wrap64; omega

/-- A node of the graph. -/
def isNode (G : List (List Int)) (s : Int) : Prop := 0 ≤ s ∧ s < G.length
instance (G : List (List Int)) (s : Int) : Decidable (isNode G s) := by unfold isNode; infer_instance
def okRows (G : List (List Int)) : Bool := G.all fun l => l.all fun s => decide (isNode G s)
def chk (G : List (List Int)) : Int := if G.length > 65536 then 11 else if okRows G = true then 0 else 10
theorem okRows_iff (G : List (List Int)) : okRows G = true ↔ ∀ l ∈ G, ∀ s ∈ l, isNode G s := by
  unfold okRows; simp [List.all_eq_true]
theorem chk_ok {G : List (List Int)} : chk G = 0 ↔ G.length ≤ 65536 ∧ ∀ l ∈ G, ∀ s ∈ l, isNode G s := by
  unfold chk
  rw [← okRows_iff]
  split
  · simp; omega
  · split
    · rename_i h1 h2; simp [h2]; omega
    · rename_i h1 h2; simp [h2]
def short (G : List (List Int)) : Prop := G.length < 4611686018427387904 ∧ ∀ l ∈ G, l.length < 4611686018427387904

theorem chk_l1_good (G : List (List Int)) (hl : G.length < 4611686018427387904) (i : Nat) (row : List Int) (hr : row.length < 4611686018427387904) (r : Int) (hK : Ev (fun k => digraph_Check.l0 k G (G.length : Int) (wrap64 ((i : Int) + 1)) G) r) :
    ∀ (d j : Nat), j + d = row.length → (∀ s ∈ row.drop j, isNode G s) → Ev (fun k => digraph_Check.l1 k G (G.length : Int) (i : Int) row (row.length : Int) (j : Int) G) r := by
  intro d
  induction d with
  | zero =>
    intro j hj _
    refine Ev.suc (fun k => ?_) hK
    simp only [digraph_Check.l1]
    rw [if_neg (by omega)]
  | succ d ih =>
    intro j hj hs
    have hlt : j < row.length := by omega
    rw [List.drop_eq_getElem_cons hlt] at hs
    have h1 := hs _ List.mem_cons_self
    refine Ev.suc (fun k => ?_) (ih (j + 1) (by omega) (fun s h => hs s (List.mem_cons_of_mem _ h)))
    simp only [digraph_Check.l1]
    rw [if_pos (by omega), if_pos (by omega), if_pos (by omega), rd_get row j hlt, if_neg (by unfold isNode at h1; omega), if_neg (by unfold isNode at h1; omega), w64 j row.length hlt hr]
theorem chk_l1_bad (G : List (List Int)) (i : Nat) (row : List Int) (hr : row.length < 4611686018427387904) :
    ∀ (d j : Nat), j + d = row.length → (∃ s ∈ row.drop j, ¬ isNode G s) → Ev (fun k => digraph_Check.l1 k G (G.length : Int) (i : Int) row (row.length : Int) (j : Int) G) 10 := by
  intro d
  induction d with
  | zero =>
    intro j hj hs
    rw [List.drop_eq_nil_of_le (by omega)] at hs
    obtain ⟨s, h, _⟩ := hs
    cases h
  | succ d ih =>
    intro j hj hs
    have hlt : j < row.length := by omega
    by_cases h1 : isNode G row[j]
    · refine Ev.suc (fun k => ?_) (ih (j + 1) (by omega) ?_)
      · simp only [digraph_Check.l1]
        rw [if_pos (by omega), if_pos (by omega), if_pos (by omega), rd_get row j hlt, if_neg (by unfold isNode at h1; omega), if_neg (by unfold isNode at h1; omega), w64 j row.length hlt hr]
      · rw [List.drop_eq_getElem_cons hlt] at hs
        obtain ⟨s, h2, h3⟩ := hs
        rcases List.mem_cons.1 h2 with h4 | h4
        · exact absurd (by rw [h4]; exact h1) h3
        · exact ⟨s, h4, h3⟩
    · refine Ev.suc (fun k => ?_) (Ev.ret 10)
      simp only [digraph_Check.l1]
      rw [if_pos (by omega), if_pos (by omega), if_pos (by omega), rd_get row j hlt]
      by_cases h2 : row[j] < 0
      · rw [if_pos h2]
      · rw [if_neg h2, if_pos (by unfold isNode at h1; omega)]
theorem chk_l0 (G : List (List Int)) (hs : short G) : ∀ (d i : Nat), i + d = G.length → Ev (fun k => digraph_Check.l0 k G (G.length : Int) (i : Int) G) (if (G.drop i).all (fun l => l.all fun s => decide (isNode G s)) = true then 0 else 10) := by
  intro d
  induction d with
  | zero =>
    intro i hi
    rw [List.drop_eq_nil_of_le (by omega)]
    refine Ev.suc (fun k => ?_) (Ev.ret 0)
    simp only [digraph_Check.l0]
    rw [if_neg (by omega)]
  | succ d ih =>
    intro i hi
    have hlt : i < G.length := by omega
    have hr := hs.2 _ (List.getElem_mem hlt)
    have hstep : ∀ k, digraph_Check.l0 (k + 1) G (G.length : Int) (i : Int) G = digraph_Check.l1 k G (G.length : Int) (i : Int) G[i] (G[i].length : Int) ((0 : Nat) : Int) G := by
      intro k
      simp only [digraph_Check.l0]
      rw [if_pos (by omega), if_pos (by omega), if_pos (by omega), rd1_get G i hlt]
      rfl
    rw [List.drop_eq_getElem_cons hlt, List.all_cons]
    by_cases h : (G[i].all fun s => decide (isNode G s)) = true
    · rw [h, Bool.true_and]
      refine Ev.suc hstep (chk_l1_good G hs.1 i G[i] hr _ ?_ G[i].length 0 (by omega) ?_)
      · rw [w64 i G.length hlt hs.1]; exact ih (i + 1) (by omega)
      · intro s h2; rw [List.drop_zero] at h2; simpa using List.all_eq_true.1 h s h2
    · rw [Bool.not_eq_true] at h
      rw [h, Bool.false_and, if_neg (by simp)]
      refine Ev.suc hstep (chk_l1_bad G i G[i] hr G[i].length 0 (by omega) ?_)
      rw [List.all_eq_false] at h
      obtain ⟨s, h2, h3⟩ := h
      exact ⟨s, by rw [List.drop_zero]; exact h2, by simpa using h3⟩
theorem chk_f (G : List (List Int)) (hs : short G) : Ev (fun k => digraph_Check.f k G) (chk G) := by
  unfold digraph_Check.f chk
  by_cases h : G.length > 65536
  · rw [if_pos h]
    exact Ev.of (fun k => by rw [if_pos (by omega)]) (Ev.ret 11)
  · rw [if_neg h]
    refine Ev.of (fun k => by rw [if_neg (by omega)]) ?_
    have := chk_l0 G hs G.length 0 (by omega)
    rw [List.drop_zero] at this
    exact this
theorem rchk_l : ∀ k, (∀ a b c d, burnishref06_Check.l0 k a b c d = digraph_Check.l0 k a b c d) ∧ (∀ a b c d e f g, burnishref06_Check.l1 k a b c d e f g = digraph_Check.l1 k a b c d e f g)
  | 0 => ⟨fun _ _ _ _ => by simp only [burnishref06_Check.l0, digraph_Check.l0], fun _ _ _ _ _ _ _ => by simp only [burnishref06_Check.l1, digraph_Check.l1]⟩
  | k + 1 => ⟨fun _ _ _ _ => by simp only [burnishref06_Check.l0, digraph_Check.l0, (rchk_l k).2], fun _ _ _ _ _ _ _ => by simp only [burnishref06_Check.l1, digraph_Check.l1, (rchk_l k).1, (rchk_l k).2]⟩
theorem rchk_f (G : List (List Int)) (hs : short G) : Ev (fun k => burnishref06_Check.f k G) (chk G) :=
  Ev.of (fun k => by unfold burnishref06_Check.f digraph_Check.f; rw [(rchk_l k).1]) (chk_f G hs)
def hasG (G : List (List Int)) (ns : List Int) : Bool := ns.all (fun a => decide (isNode G a)) && decide (chk G = 0)
theorem hasG_iff (G : List (List Int)) (ns : List Int) : hasG G ns = true ↔ (∀ a ∈ ns, isNode G a) ∧ chk G = 0 := by
  unfold hasG; simp [List.all_eq_true]
theorem has_l0 (G : List (List Int)) (hs : short G) (ns : List Int) (hn : ns.length < 1000) : ∀ (d i : Nat), i + d = ns.length → Ev (fun k => digraph_has.l0 k ns (ns.length : Int) (i : Int) G) (hasG G (ns.drop i)) := by
  intro d
  induction d with
  | zero =>
    intro i hi
    rw [List.drop_eq_nil_of_le (by omega)]
    have h1 : ∀ k, digraph_has.l0 (k + 1) ns (ns.length : Int) (i : Int) G = (digraph_Check.f k G).bind fun t147 => some (t147 == 0) := by
      intro k
      simp only [digraph_has.l0]
      rw [if_neg (by omega)]
    refine Ev.suc h1 (Ev.bind (chk_f G hs) ?_)
    have : (chk G == 0) = hasG G [] := by simp [hasG, BEq.beq]
    rw [this]
    exact Ev.ret _
  | succ d ih =>
    intro i hi
    have hlt : i < ns.length := by omega
    rw [List.drop_eq_getElem_cons hlt]
    by_cases h : isNode G ns[i]
    · have : hasG G (ns[i] :: ns.drop (i + 1)) = hasG G (ns.drop (i + 1)) := by
        unfold hasG; rw [List.all_cons, decide_eq_true h, Bool.true_and]
      rw [this]
      refine Ev.suc (fun k => ?_) (ih (i + 1) (by omega))
      simp only [digraph_has.l0]
      rw [if_pos (by omega), if_pos (by omega), if_pos (by omega), rd_get ns i hlt, if_neg (by unfold isNode at h; omega), if_neg (by unfold isNode at h; omega), w64 i ns.length hlt (by omega)]
    · have : hasG G (ns[i] :: ns.drop (i + 1)) = false := by
        unfold hasG; rw [List.all_cons, decide_eq_false h, Bool.false_and, Bool.false_and]
      rw [this]
      refine Ev.suc (fun k => ?_) (Ev.ret false)
      simp only [digraph_has.l0]
      rw [if_pos (by omega), if_pos (by omega), if_pos (by omega), rd_get ns i hlt]
      by_cases h2 : ns[i] < 0
      · rw [if_pos h2]
      · rw [if_neg h2, if_pos (by unfold isNode at h; omega)]
theorem has_f (G : List (List Int)) (hs : short G) (ns : List Int) (hn : ns.length < 1000) : Ev (fun k => digraph_has.f k G ns) (hasG G ns) := by
  have := has_l0 G hs ns hn ns.length 0 (by omega)
  rw [List.drop_zero] at this
  exact this

/-! ### The comparisons. -/
/-! ### The number of edges. -/
def edges (G : List (List Int)) : Nat := (G.map List.length).sum
theorem edges_le (M : Nat) : ∀ (G : List (List Int)), (∀ l ∈ G, l.length ≤ M) → edges G ≤ G.length * M
  | [], _ => by simp [edges]
  | a :: G, h => by
    have h1 := edges_le M G (fun l hl => h l (List.mem_cons_of_mem _ hl))
    have h2 := h a List.mem_cons_self
    simp only [edges, List.map_cons, List.sum_cons, List.length_cons] at h1 ⊢
    rw [Nat.succ_mul]
    omega
end Go.Proofs.Ytbphjbfnnhfhlaa
end

