import Derived.Test.YtjacphcbiaacnaaDoorRows
import Derived.WalkKit
import Derived.ProofKit
import Derived.OpenShut
import Derived.SizedLaws
import Derived.Deep.Slices
import Derived.Test.YtjacphcbiaacnaaDoorMSOR17
section
/- The example of chapter 52's awake in memory. -/
set_option linter.unusedVariables false
set_option linter.unusedSimpArgs false
namespace Go.Proofs.YtjacphcbiaacnaaDoor
open Go.RowKit Go.Proofs.YtjacphcbiaacnaaDoorW.PrintWords Go.Proofs.YtjacphcbiaacnaaDoorW.PrintMore Go.Proofs.YtjacphcbiaacnaaDoor.PDigraphTells Mem Sc
theorem rr_ints {w : World} {g : Nat} {xs : List Int} {t : Nat} (h : w.heap[g]? = some (.cells (xs.map (Value.int .i64)).toArray t (0, 0))) (hl : xs.length ≤ 1000) : Kd.C (Kd.int .i64) w (some ⟨g, 0, none⟩) xs.length xs := by
 refine ⟨rfl, Nat.le_trans hl (by decide), fun _ => ⟨_, rfl, fun j q hj => ⟨[.int .i64 q], rfl, rfl, fun i u hu => ?_⟩⟩⟩
 rcases i with _ | i
 ·obtain rfl : Value.int .i64 q = u := by simpa using hu
  show w.cell? ((⟨g, 0, none⟩ : Addr).add (j * 1 + 0)) = _
  rw [addz]
  refine cell_at h ?_
  simp [hj]
 ·simp at hu
theorem ex_rows {w : World} {g0 g1 : Nat} (h0 : w.heap[g0]? = some (.cells #[.int .i64 0, .int .i64 1] 3 (0, 0)))
  (h1 : w.heap[g1]? = some (.cells #[.int .i64 1, .int .i64 3, .int .i64 0, .slice none 0 0, .int .i64 1, .int .i64 0, .int .i64 0, .bool false, .int .i64 1, .int .i64 3, .int .i64 1, .slice none 0 0, .int .i64 2, .int .i64 0, .int .i64 0, .bool false, .int .i64 5, .int .i64 3, .int .i64 2, .slice (some ⟨g0, 0, none⟩) 2 2, .int .i64 0, .int .i64 0, .int .i64 0, .bool false] 48 (0, 0))) :
  Kd.C k48 w (some ⟨g1, 0, none⟩) 3 exB := by
 have hr : Kd.C (Kd.int .i64) w (some ⟨g0, 0, none⟩) 2 [0, 1] := rr_ints (xs := [0, 1]) h0 (by decide)
 have key : ∀ (m : Nat) (u : Value), (#[Value.int .i64 1, .int .i64 3, .int .i64 0, .slice none 0 0, .int .i64 1, .int .i64 0, .int .i64 0, .bool false, .int .i64 1, .int .i64 3, .int .i64 1, .slice none 0 0, .int .i64 2, .int .i64 0, .int .i64 0, .bool false, .int .i64 5, .int .i64 3, .int .i64 2, .slice (some ⟨g0, 0, none⟩) 2 2, .int .i64 0, .int .i64 0, .int .i64 0, .bool false] : Array Value)[m]? = some u → w.cell? ((⟨g1, 0, none⟩ : Addr).add m) = some u := fun m u hu => by
  rw [addz]; exact cell_at h1 hu
 clear h0 h1
 refine ⟨rfl, by decide, fun _ => ⟨_, rfl, fun j q hj => ?_⟩⟩
 rcases j with _ | _ | _ | j
 ·obtain rfl : (⟨1, 3, 0, [], 1, 0, 0, false⟩ : S48) = q := by simpa [exB] using hj
  refine ⟨_, rfl, k48_mk w ⟨1, 3, 0, [], 1, 0, 0, false⟩ (A3 := none) (c3 := 0) (Nat.le_refl _) (Kd.C_nil _ _), fun i u hu => key (0 * 8 + i) u ?_⟩
  rcases i with _ | _ | _ | _ | _ | _ | _ | _ | i <;> first | exact hu | simp at hu
 ·obtain rfl : (⟨1, 3, 1, [], 2, 0, 0, false⟩ : S48) = q := by simpa [exB] using hj
  refine ⟨_, rfl, k48_mk w ⟨1, 3, 1, [], 2, 0, 0, false⟩ (A3 := none) (c3 := 0) (Nat.le_refl _) (Kd.C_nil _ _), fun i u hu => key (1 * 8 + i) u ?_⟩
  rcases i with _ | _ | _ | _ | _ | _ | _ | _ | i <;> first | exact hu | simp at hu
 ·obtain rfl : (⟨5, 3, 2, [0, 1], 0, 0, 0, false⟩ : S48) = q := by simpa [exB] using hj
  refine ⟨_, rfl, k48_mk w ⟨5, 3, 2, [0, 1], 0, 0, 0, false⟩ (A3 := some ⟨g0, 0, none⟩) (c3 := 2) (Nat.le_refl _) hr, fun i u hu => key (2 * 8 + i) u ?_⟩
  rcases i with _ | _ | _ | _ | _ | _ | _ | _ | i <;> first | exact hu | simp at hu
 ·simp [exB] at hj
theorem ex_bk {w : World} {A : Option Addr} (h : Kd.C k48 w A 3 exB) : Bk w none 0 [] none 0 [] A 3 exB none 0 [] none 0 [] none 0 [] :=
 ⟨Kd.C_nil _ _, Nat.le_refl _, Kd.C_nil _ _, Nat.le_refl _, h, Nat.le_refl _, Kd.C_nil _ _, Nat.le_refl _, Kd.C_nil _ _, Nat.le_refl _, Kd.C_nil _ _, Nat.le_refl _⟩
end Go.Proofs.YtjacphcbiaacnaaDoor
end

section
/- The printed function slices_Equal_int_int. -/
namespace Go.Proofs.YtjacphcbiaacnaaDoor.PDigraphTells
open Go.RowKit Go.Proofs.YtjacphcbiaacnaaDoorW.PrintWords Go.Proofs.YtjacphcbiaacnaaDoorW.PrintLast Go.Proofs.YtjacphcbiaacnaaDoorW.PrintMore
attribute [local go_sem] max2_int min2_int max_two min_two max_three min_three max_four min_four   -- for this text's walks alone
set_option linter.unusedVariables false
set_option linter.unusedSimpArgs false

/-! ### slices_Equal_int_int: function 12 -/
def slices_Equal_int_int.l0 : Nat → List Int → List Int → Int → Int → Option (Bool)
 | 0, _, _, _, _ => none
 | k + 1, x0, x1, x12, x13 => if x13 < x12 then (if 0 ≤ x13 then (if x13 < (x0.length : Int) then (if x13 < (x1.length : Int) then (if (rd x0 x13) = (rd x1 x13) then (slices_Equal_int_int.l0 k x0 x1 x12 (wrap64 (x13 + 1))) else (some false)) else (none)) else (none)) else (none)) else (some true)
def slices_Equal_int_int.f (k : Nat) (l0 : List Int) (l1 : List Int) : Option (Bool) := if (l0.length : Int) = (l1.length : Int) then (slices_Equal_int_int.l0 k l0 l1 (l0.length : Int) 0) else (some false)
set_option maxHeartbeats 8000000 in
set_option maxRecDepth 100000 in
theorem slices_Equal_int_int.calls (k : Nat) (A0 : Option Addr) (c0 : Nat) (l0 : List Int) (A1 : Option Addr) (c1 : Nat) (l1 : List Int) (r : Bool) (w : World) (hr0 : Kd.C (Kd.int .i64) w A0 l0.length l0) (hc0 : l0.length ≤ c0) (hr1 : Kd.C (Kd.int .i64) w A1 l1.length l1) (hc1 : l1.length ≤ c1) (h : slices_Equal_int_int.f k l0 l1 = some r) :
  Calls Tryd.prog 12 #[.slice A0 l0.length c0, .slice A1 l1.length c1] w fun e w' => e = .returned (.bool r) ∧ Drawn0 w w' := by
 have HR0 := Aside0.mk hr0
 have HC0 := Aside0.mk hc0
 clear hr0 hc0
 have HR1 := Aside0.mk hr1
 have HC1 := Aside0.mk hc1
 clear hr1 hc1
 have H : (if (l0.length : Int) = (l1.length : Int) then (slices_Equal_int_int.l0 k l0 l1 (l0.length : Int) 0) else (some false)) = some r := h
 clear h
 by_cases c3 : (l0.length : Int) = (l1.length : Int)
 ·rw [if_pos c3] at H
  have c3b0 : ((l0.length : Int) == (l1.length : Int)) = true := beq_iff_eq.mpr c3
  have c3b1 : ((l0.length : Int) != (l1.length : Int)) = false := bne_eq_false_iff_eq.mpr c3
  have c3b2 : (l0.length == l1.length) = true := by first | simpa using c3 | (simp at c3 ⊢; omega)
  clear c3
  have H' := Aside0.mk H
  clear H
  go_enter Tryd.func12, Tryd.ntmps12
  go_wp2
  repeat (go_quiet (fail); try go_wp2)
  go_loopg [13] k (fun kq v13 w' => ∃ (x13_1 : Int), v13 = .int .i64 x13_1 ∧ Aside0 (slices_Equal_int_int.l0 kq l0 l1 (l0.length : Int) x13_1 = some r) ∧ Aside0 (kq ≤ k) ∧ Drawn0 w w')
  case atStart => exact ⟨(0), (by first | rfl | (simp; done) | (simp [*]; done)), H', ⟨Nat.le_refl _⟩, by repeat (first | exact Drawn0.refl _ | apply Drawn0.step)⟩
  case round =>
   clear H'
   try clear c1
   try clear p2
   try clear c3
   try clear c3b0
   try clear c3b1
   try clear c3b2
   obtain ⟨x13_1, rfl, HA, HK1, ⟨m1, rfl⟩⟩ := hrel
   cases gk with
   | zero => exact absurd HA.out (by simp [slices_Equal_int_int.l0])
   | succ k1 =>
    have H := HA.out
    clear HA
    simp only [slices_Equal_int_int.l0] at H
    by_cases c4 : x13_1 < (l0.length : Int)
    ·rw [if_pos c4] at H
     have c4b0 : decide (x13_1 < (l0.length : Int)) = true := decide_eq_true c4
     clear c4
     by_cases c5 : 0 ≤ x13_1
     ·rw [if_pos c5] at H
      have c5b0 : decide (0 ≤ x13_1) = true := decide_eq_true c5
      clear c5
      by_cases c6 : x13_1 < (l0.length : Int)
      ·rw [if_pos c6] at H
       have c6b0 : decide (x13_1 < (l0.length : Int)) = true := decide_eq_true c6
       clear c6
       by_cases c7 : x13_1 < (l1.length : Int)
       ·rw [if_pos c7] at H
        have c7b0 : decide (x13_1 < (l1.length : Int)) = true := decide_eq_true c7
        clear c7
        by_cases c8 : (rd l0 x13_1) = (rd l1 x13_1)
        ·rw [if_pos c8] at H
         have c8b0 : ((rd l0 x13_1) == (rd l1 x13_1)) = true := beq_iff_eq.mpr c8
         have c8b1 : ((rd l0 x13_1) != (rd l1 x13_1)) = false := bne_eq_false_iff_eq.mpr c8
         clear c8
         have H' := Aside0.mk H
         clear H
         have p168 : 0 ≤ (x13_1 : Int) := of_decide_eq_true (by first | (with_reducible assumption) | assumption)
         have q168 : x13_1 < (l0.length : Int) := of_decide_eq_true (by first | (with_reducible assumption) | assumption)
         obtain ⟨ad168, e168, hx168_0⟩ := Kd.at_int HR0.out x13_1 p168 q168
         cases e168
         replace p168 := eq_true p168
         replace q168 := eq_true q168
         have p169 : 0 ≤ (x13_1 : Int) := of_decide_eq_true (by first | (with_reducible assumption) | assumption)
         have q169 : x13_1 < (l1.length : Int) := of_decide_eq_true (by first | (with_reducible assumption) | assumption)
         obtain ⟨ad169, e169, hx169_0⟩ := Kd.at_int HR1.out x13_1 p169 q169
         cases e169
         replace p169 := eq_true p169
         replace q169 := eq_true q169
         go_wp2
         repeat (go_quiet (fail); try go_wp2)
         go_roundg k1
         case measure => have := HK1.out; omega
         case rel => exact ⟨(wrap64 (x13_1 + 1)), (by first | rfl | (simp; done) | (simp [*]; done)), H', ⟨by have := HK1.out; omega⟩, by repeat (first | exact Drawn0.refl _ | apply Drawn0.step)⟩
        ·rw [if_neg c8] at H
         have c8b0 : ((rd l0 x13_1) == (rd l1 x13_1)) = false := beq_eq_false_iff_ne.mpr c8
         have c8b1 : ((rd l0 x13_1) != (rd l1 x13_1)) = true := bne_iff_ne.mpr c8
         obtain rfl := Option.some.inj H
         have p168 : 0 ≤ (x13_1 : Int) := of_decide_eq_true (by first | (with_reducible assumption) | assumption)
         have q168 : x13_1 < (l0.length : Int) := of_decide_eq_true (by first | (with_reducible assumption) | assumption)
         obtain ⟨ad168, e168, hx168_0⟩ := Kd.at_int HR0.out x13_1 p168 q168
         cases e168
         replace p168 := eq_true p168
         replace q168 := eq_true q168
         have p169 : 0 ≤ (x13_1 : Int) := of_decide_eq_true (by first | (with_reducible assumption) | assumption)
         have q169 : x13_1 < (l1.length : Int) := of_decide_eq_true (by first | (with_reducible assumption) | assumption)
         obtain ⟨ad169, e169, hx169_0⟩ := Kd.at_int HR1.out x13_1 p169 q169
         cases e169
         replace p169 := eq_true p169
         replace q169 := eq_true q169
         go_wp2
         repeat (go_quiet (fail); try go_wp2)
         go_ret
         exact ⟨by first | rfl | (simp; done) | (simp [*]; done), by repeat (first | exact Drawn0.refl _ | apply Drawn0.step)⟩
       ·rw [if_neg c7] at H
        exact absurd H (by simp)
      ·rw [if_neg c6] at H
       exact absurd H (by simp)
     ·rw [if_neg c5] at H
      exact absurd H (by simp)
    ·rw [if_neg c4] at H
     have c4b0 : decide (x13_1 < (l0.length : Int)) = false := decide_eq_false c4
     clear c4
     obtain rfl := Option.some.inj H
     go_wp2
     repeat (go_quiet (fail); try go_wp2)
     go_ret
     exact ⟨by first | rfl | (simp; done) | (simp [*]; done), by repeat (first | exact Drawn0.refl _ | apply Drawn0.step)⟩
 ·rw [if_neg c3] at H
  have c3b0 : ((l0.length : Int) == (l1.length : Int)) = false := beq_eq_false_iff_ne.mpr c3
  have c3b1 : ((l0.length : Int) != (l1.length : Int)) = true := bne_iff_ne.mpr c3
  have c3b2 : (l0.length == l1.length) = false := by first | simpa using c3 | (simp at c3 ⊢; omega)
  obtain rfl := Option.some.inj H
  go_enter Tryd.func12, Tryd.ntmps12
  go_wp2
  repeat (go_quiet (fail); try go_wp2)
  go_ret
  exact ⟨by first | rfl | (simp; done) | (simp [*]; done), by repeat (first | exact Drawn0.refl _ | apply Drawn0.step)⟩

-- NOT PRINTED: function 13 (sched_Length)

-- NOT PRINTED: function 32 (slices_Max_int_int)

-- NOT PRINTED: function 15 (sched_LowerBound)

-- NOT PRINTED: function 8 (burnishlaw52_awake)
end Go.Proofs.YtjacphcbiaacnaaDoor.PDigraphTells
end

section
/- Chapter 52's awake. -/
set_option linter.unusedVariables false
set_option linter.unusedSimpArgs false
namespace Go.Proofs.YtjacphcbiaacnaaDoor
open Go.RowKit Go.Proofs.YtjacphcbiaacnaaDoorW.PrintWords Go.Proofs.YtjacphcbiaacnaaDoorW.PrintMore Go.Proofs.YtjacphcbiaacnaaDoor.PDigraphTells Mem Sc
theorem same_lit {A : Option Addr} {c n : Nat} {x : List Int} {w : World} (hA : Kd.C (Kd.int .i64) w A n x) (hc : n ≤ c) (hn : x.length = n) (cs : Array Value) (hcs : (x.map (Value.int .i64)).toArray = cs) (hl : x.length ≤ 1000) (hf : slices_Equal_int_int.f 10 x x = some true) :
  Calls Tryd.prog 12 #[.slice A n c, .slice (some ⟨w.heap.size, 0, none⟩) n n] (w.alloc (.cells cs 3)) fun e w' => e = .returned (.bool true) ∧ Below w.heap.size w w' := by
 subst hn hcs
 refine (slices_Equal_int_int.calls 10 A c x (some ⟨w.heap.size, 0, none⟩) x.length x true _ (Kd.C_alloc hA _) hc (rr_ints (heap_alloc_new w _) hl) (Nat.le_refl _) hf).mono ?_
 rintro e w1 ⟨rfl, ⟨m, rfl⟩⟩
 exact ⟨rfl, pw_below_drewN (below_alloc (Below.refl _ w) _) _⟩
/-- The example in memory: what later worlds keep. -/
def EX (gb : Nat) (w w' : World) : Prop := Below w.heap.size w w' ∧ Kd.C k48 w' (some ⟨gb + 1, 0, none⟩) 3 exB ∧ w'.heap[gb + 2]? = some (.cells #[.slice none 0 0, .slice (some ⟨gb + 1, 0, none⟩) 3 3, .int .i64 0, .slice none 0 0, .slice none 0 0, .slice none 0 0, .int .i64 0] 31 (0, 0)) ∧ w'.heap[gb + 3]? = some (.cells #[.int .i64 2, .int .i64 8, .slice none 0 0] 24 (0, 0))
theorem EX.below {gb : Nat} {w w1 w2 : World} (h : EX gb w w1) (hb : Below w1.heap.size w1 w2) : EX gb w w2 :=
 ⟨bl1 h.1 hb, Kd.C_below h.2.1 hb, (hb.block _ (blk_lt' h.2.2.1)).trans h.2.2.1, (hb.block _ (blk_lt' h.2.2.2)).trans h.2.2.2⟩
theorem EX.cells {gb : Nat} {w w' : World} (h : EX gb w w') : w'.cell? ⟨gb + 3, 0, none⟩ = some (.int .i64 2) ∧ w'.cell? ⟨gb + 3, 1, none⟩ = some (.int .i64 8) ∧ w'.cell? ⟨gb + 3, 2, none⟩ = some (.slice none 0 0) ∧ w'.cell? ⟨gb + 2, 0, none⟩ = some (.slice none 0 0) ∧ w'.cell? ⟨gb + 2, 1, none⟩ = some (.slice (some ⟨gb + 1, 0, none⟩) 3 3) ∧ w'.cell? ⟨gb + 2, 2, none⟩ = some (.int .i64 0) ∧ w'.cell? ⟨gb + 2, 3, none⟩ = some (.slice none 0 0) ∧ w'.cell? ⟨gb + 2, 4, none⟩ = some (.slice none 0 0) ∧ w'.cell? ⟨gb + 2, 5, none⟩ = some (.slice none 0 0) ∧ w'.cell? ⟨gb + 2, 6, none⟩ = some (.int .i64 0) :=
 ⟨cell_at h.2.2.2 rfl, cell_at h.2.2.2 rfl, cell_at h.2.2.2 rfl, cell_at h.2.2.1 rfl, cell_at h.2.2.1 rfl, cell_at h.2.2.1 rfl, cell_at h.2.2.1 rfl, cell_at h.2.2.1 rfl, cell_at h.2.2.1 rfl, cell_at h.2.2.1 rfl⟩
theorem ex_mk (w : World) {gb : Nat} (hgb : w.heap.size = gb) : EX gb w ((((w.alloc (.cells #[.int .i64 0, .int .i64 1] 3)).alloc (.cells #[.int .i64 1, .int .i64 3, .int .i64 0, .slice none 0 0, .int .i64 1, .int .i64 0, .int .i64 0, .bool false, .int .i64 1, .int .i64 3, .int .i64 1, .slice none 0 0, .int .i64 2, .int .i64 0, .int .i64 0, .bool false, .int .i64 5, .int .i64 3, .int .i64 2, .slice (some ⟨gb, 0, none⟩) 2 2, .int .i64 0, .int .i64 0, .int .i64 0, .bool false] 48)).alloc (.cells #[.slice none 0 0, .slice (some ⟨gb + 1, 0, none⟩) 3 3, .int .i64 0, .slice none 0 0, .slice none 0 0, .slice none 0 0, .int .i64 0] 31)).alloc (.cells #[.int .i64 2, .int .i64 8, .slice none 0 0] 24)) := by
 obtain ⟨w1, h1⟩ : ∃ w1, w.alloc (.cells #[.int .i64 0, .int .i64 1] 3) = w1 := ⟨_, rfl⟩
 have e1 : w1.heap[gb]? = some (.cells #[.int .i64 0, .int .i64 1] 3 (0, 0)) := by rw [← h1, ← hgb]; exact heap_alloc_new w _
 have s1 : w1.heap.size = gb + 1 := by rw [← h1]; simp [hgb]
 have b1 : Below w.heap.size w w1 := by rw [← h1]; exact below_alloc (Below.refl _ w) _
 rw [h1]
 obtain ⟨w2, h2⟩ : ∃ w2, w1.alloc (.cells #[.int .i64 1, .int .i64 3, .int .i64 0, .slice none 0 0, .int .i64 1, .int .i64 0, .int .i64 0, .bool false, .int .i64 1, .int .i64 3, .int .i64 1, .slice none 0 0, .int .i64 2, .int .i64 0, .int .i64 0, .bool false, .int .i64 5, .int .i64 3, .int .i64 2, .slice (some ⟨gb, 0, none⟩) 2 2, .int .i64 0, .int .i64 0, .int .i64 0, .bool false] 48) = w2 := ⟨_, rfl⟩
 have b2 : Below w1.heap.size w1 w2 := by rw [← h2]; exact below_alloc (Below.refl _ w1) _
 have e2 := ex_rows (w := w2) (g0 := gb) (g1 := gb + 1) ((b2.block _ (blk_lt' e1)).trans e1) (by rw [← h2, ← s1]; exact heap_alloc_new w1 _)
 have s2 : w2.heap.size = gb + 2 := by rw [← h2]; simp [s1]
 rw [h2]
 obtain ⟨w3, h3⟩ : ∃ w3, w2.alloc (.cells #[.slice none 0 0, .slice (some ⟨gb + 1, 0, none⟩) 3 3, .int .i64 0, .slice none 0 0, .slice none 0 0, .slice none 0 0, .int .i64 0] 31) = w3 := ⟨_, rfl⟩
 have b3 : Below w2.heap.size w2 w3 := by rw [← h3]; exact below_alloc (Below.refl _ w2) _
 have s3 : w3.heap.size = gb + 3 := by rw [← h3]; simp [s2]
 have e3 : w3.heap[gb + 2]? = some (.cells #[.slice none 0 0, .slice (some ⟨gb + 1, 0, none⟩) 3 3, .int .i64 0, .slice none 0 0, .slice none 0 0, .slice none 0 0, .int .i64 0] 31 (0, 0)) := by rw [← h3, ← s2]; exact heap_alloc_new w2 _
 rw [h3]
 have b4 : Below w3.heap.size w3 (w3.alloc (.cells #[.int .i64 2, .int .i64 8, .slice none 0 0] 24)) := below_alloc (Below.refl _ w3) _
 exact ⟨bl1 (bl1 (bl1 b1 b2) b3) b4, Kd.C_below (Kd.C_below e2 b3) b4, (b4.block _ (blk_lt' e3)).trans e3, by rw [← s3]; exact heap_alloc_new w3 _⟩
theorem ex_mk2 (w : World) {gb : Nat} (hgb : w.heap.size = gb) : ∃ w1, ((((w.alloc (.cells #[.int .i64 0, .int .i64 1] 3)).alloc (.cells #[.int .i64 1, .int .i64 3, .int .i64 0, .slice none 0 0, .int .i64 1, .int .i64 0, .int .i64 0, .bool false, .int .i64 1, .int .i64 3, .int .i64 1, .slice none 0 0, .int .i64 2, .int .i64 0, .int .i64 0, .bool false, .int .i64 5, .int .i64 3, .int .i64 2, .slice (some ⟨gb, 0, none⟩) 2 2, .int .i64 0, .int .i64 0, .int .i64 0, .bool false] 48)).alloc (.cells #[.slice none 0 0, .slice (some ⟨gb + 1, 0, none⟩) 3 3, .int .i64 0, .slice none 0 0, .slice none 0 0, .slice none 0 0, .int .i64 0] 31)).alloc (.cells #[.int .i64 2, .int .i64 8, .slice none 0 0] 24)) = w1 ∧ EX gb w w1 := ⟨_, rfl, ex_mk w hgb⟩
set_option maxRecDepth 100000 in
set_option maxHeartbeats 4000000 in
theorem awake_any (w : World) (hDN : DN w) : Calls Tryd.prog 8 #[] w fun e w' => e = .returned (.bool true) ∧ Below w.heap.size w w' := by
 have h0 : 0 < w.heap.size := hDN.pos
 have hD := Aside0.mk (fun (W1 : World) (hb : Below w.heap.size w W1) => hDN.below hb h0)
 clear hDN h0
 go_enter Tryd.func8, Tryd.ntmps8
 go_wp2_with fail
 obtain ⟨gb, hgb⟩ : ∃ gb, w.heap.size = gb := ⟨_, rfl⟩
 obtain ⟨w1, hw1, hE⟩ := ex_mk2 w hgb
 rw [hgb, hw1]
 rw [show gb + 1 + 1 + 1 = gb + 3 from rfl, show gb + 1 + 1 = gb + 2 from rfl]
 clear hw1 hgb
 replace hE := Aside0.mk hE
 refine (block_any (W := 2) (R := 8) (ex_bk hE.out.2.1) ex_sml (by decide) (hD.out _ hE.out.1)).mono ?_
 rintro e w2 ⟨vo, vy, o, y, rfl, hIs, r1, r2, B2⟩
 obtain ⟨rfl, rfl⟩ := hIs.uniq ex_isB
 obtain ⟨Ao, co, ev, ho, Co⟩ := Kd.R_reads r1
 subst ev
 obtain ⟨Ay, cy, ev, hy, Cy⟩ := Kd.R_reads r2
 subst ev
 have H2 := Aside0.mk (And.intro (hE.out.below B2) (And.intro ho (And.intro Co (And.intro hy Cy))))
 clear hIs r1 r2 B2 ho Co hy Cy hE
 obtain ⟨a0, a1, a2, d0, d1, d2, d3, d4, d5, d6⟩ := H2.out.1.cells
 go_wp2_with fail
 refine (deps_any (ex_bk H2.out.1.2.1) ex_sml 0 0).mono ?_
 rintro e w3 ⟨v, rfl, Rx, B3⟩
 obtain ⟨AD, cD, rfl, hDg⟩ := Dg.of Rx (show (depL exB).length = 3 by rw [ex_dep]; rfl)
 rw [ex_dep] at hDg
 obtain ⟨gD, eD, _⟩ := dg_form hDg (by decide)
 subst eD
 have H3 := Aside0.mk (And.intro (H2.out.1.below B3) (And.intro H2.out.2.1 (And.intro (Kd.C_below H2.out.2.2.1 B3) (And.intro H2.out.2.2.2.1 (And.intro (Kd.C_below H2.out.2.2.2.2 B3) (And.intro hDg.reads hDg.2.1))))))
 clear Rx B3 hDg H2 a0 a1 a2 d0 d1 d2 d3 d4 d5 d6
 obtain ⟨a0, a1, a2, d0, d1, d2, d3, d4, d5, d6⟩ := H3.out.1.cells
 go_wp2_with fail
 refine (same_lit H3.out.2.2.1 H3.out.2.1 rfl _ rfl (by decide) (by decide +kernel)).mono ?_
 rintro e w4 ⟨rfl, B4⟩
 have H4 := Aside0.mk (And.intro (H3.out.1.below B4) (And.intro H3.out.2.2.2.1 (And.intro (Kd.C_below H3.out.2.2.2.2.1 B4) (And.intro (Kd.C_below H3.out.2.2.2.2.2.1 B4) H3.out.2.2.2.2.2.2))))
 clear B4 H3 a0 a1 a2 d0 d1 d2 d3 d4 d5 d6
 go_wp2_with fail
 refine (same_lit H4.out.2.2.1 H4.out.2.1 rfl _ rfl (by decide) (by decide +kernel)).mono ?_
 rintro e w5 ⟨rfl, B5⟩
 have H5 := Aside0.mk (And.intro (H4.out.1.below B5) (And.intro (Kd.C_below H4.out.2.2.2.1 B5) H4.out.2.2.2.2))
 clear B5 H4
 obtain ⟨a0, a1, a2, d0, d1, d2, d3, d4, d5, d6⟩ := H5.out.1.cells
 go_wp2_with fail
 refine (len_any (W := 2) (R := 8) (ex_bk H5.out.1.2.1) ex_sml (by decide) (hD.out _ H5.out.1.1)).mono ?_
 rintro e w6 ⟨o, y, rfl, hIs, B6⟩
 obtain ⟨rfl, rfl⟩ := hIs.uniq ex_isB
 rw [ex_len]
 have H6 := Aside0.mk (And.intro (H5.out.1.below B6) (And.intro (Kd.C_below H5.out.2.1 B6) H5.out.2.2))
 clear hIs B6 H5 a0 a1 a2 d0 d1 d2 d3 d4 d5 d6
 obtain ⟨a0, a1, a2, d0, d1, d2, d3, d4, d5, d6⟩ := H6.out.1.cells
 go_wp2_with fail
 refine (low_any (W := 2) (R := 8) (ex_bk H6.out.1.2.1) ex_sml (by decide)).mono ?_
 rintro e w7 ⟨r, rfl, hLo, B7⟩
 obtain rfl := hLo.uniq ex_low
 obtain ⟨ad, A2, c2, eA, x2, hl2, C2⟩ := at_L1 (Kd.C_below H6.out.2.1 B7) (2 : Int) (by decide) (by decide)
 injection eA with eA
 subst eA
 obtain ⟨ad', A1, c1, eA, x1, hl1, C1⟩ := at_L1 (Kd.C_below H6.out.2.1 B7) (1 : Int) (by decide) (by decide)
 injection eA with eA
 subst eA
 have x2' : w7.cell? ⟨gD, 2, none⟩ = some (.slice A2 2 c2) := x2
 have x1' : w7.cell? ⟨gD, 1, none⟩ = some (.slice A1 0 c1) := x1
 have C2' : Kd.C (Kd.int .i64) w7 A2 2 [0, 1] := C2
 have H7 := Aside0.mk (And.intro (H6.out.1.below B7) (And.intro C2' (And.intro (show 2 ≤ c2 from hl2) x1')))
 clear hLo B7 H6 a0 a1 a2 d0 d1 d2 d3 d4 d5 d6 x1 x2 C1 C2 hl1 hl2 C2' x1'
 go_wp2_with fail
 refine (same_lit H7.out.2.1 H7.out.2.2.1 rfl _ rfl (by decide) (by decide +kernel)).mono ?_
 rintro e w8 ⟨rfl, B8⟩
 have x1 := (Below.cell B8 (World.block_lt_of_cell? _ _ H7.out.2.2.2)).trans H7.out.2.2.2
 have hF := Aside0.mk (H7.out.1.below B8).1
 clear B8 H7 x2'
 go_wp2
 go_ret
 exact ⟨rfl, hF.out⟩
end Go.Proofs.YtjacphcbiaacnaaDoor
end

section
/- The reference's functions of chapter 52, as contracts. -/
set_option linter.unusedVariables false
set_option linter.unusedSimpArgs false
set_option linter.unusedSectionVars false
namespace Go.Proofs.YtjacphcbiaacnaaDoor
open Go.RowKit Go.Proofs.YtjacphcbiaacnaaDoorW.PrintWords Go.Proofs.YtjacphcbiaacnaaDoorW.PrintMore Go.Proofs.YtjacphcbiaacnaaDoor.PDigraphTells Mem Sc
section
variable {w w' : World} {W R : Int} {AL : Option Addr} {cL : Nat} {Lat : List Int} {AP : Option Addr} {cP : Nat} {P : List Int} {AI : Option Addr} {cI : Nat} {B : List S48} {A3 : Option Addr} {c3 : Nat} {t1 : List Int} {A4 : Option Addr} {c4 : Nat} {t2 : List Int} {A5 : Option Addr} {c5 : Nat} {t3 : List S98} {t0 t4 : Int}
theorem rlow_any (h : Bk w AL cL Lat AP cP P AI cI B A3 c3 t1 A4 c4 t2 A5 c5 t3) (hB : sml B) (hLl : Lat.length < 1000000000) :
  Calls Tryd.prog 16 #[.agg #[.int .i64 W, .int .i64 R, .slice AL Lat.length cL], .agg #[.slice AP P.length cP, .slice AI B.length cI, .int .i64 t0, .slice A3 t1.length c3, .slice A4 t2.length c4, .slice A5 t3.length c5, .int .i64 t4]] w fun e w' => ∃ r, e = .returned (.int .i64 r) ∧ IsLow W R Lat B r ∧ Below w.heap.size w w' := by
 obtain ⟨r, hr, hi⟩ := rlow_f W R Lat P B t0 t1 t2 t3 t4 hB hLl
 obtain ⟨k, hk⟩ := hr.get
 refine (burnishref52_LowerBound.calls k W R AL cL Lat AP cP P AI cI B t0 A3 c3 t1 A4 c4 t2 A5 c5 t3 t4 r w h.rL h.hL h.rP h.hP h.rI h.hI h.r1 h.h1 h.r2 h.h2 h.r3 h.h3 hk).mono ?_
 rintro e w' ⟨rfl, hb⟩
 exact ⟨r, rfl, hi, hb⟩
theorem rlen_f2 (hB : sml B) (hLl : Lat.length < 1000000000) : ∃ o y, IsB W R Lat B o y ∧ Ev (fun q => burnishref52_Length.f q W R Lat P B t0 t1 t2 t3 t4) (lenF Lat B o y 0) := by
 cases hv : validB W R Lat with
 | true =>
  refine rlen_f W R Lat P B t0 t1 t2 t3 t4 hB hLl (fun k => ?_)
  have h9 : 1 ≤ latI Lat k ∧ latI Lat k ≤ 100 := (insS_ok (B := [⟨k, 0, 0, [], 0, 0, 0, false⟩]) hv (by simp)).lt1 0
  omega
 | false =>
  obtain ⟨o, y, h1, h2⟩ := rblock_f W R Lat P B t0 t1 t2 t3 t4 hB hLl
  refine ⟨o, y, h2, ?_⟩
  rcases h2 with ⟨_, rfl, rfl⟩ | ⟨g, _⟩
  ·unfold burnishref52_Length.f
   exact Ev.bind h1 (Ev.fix fun q => by simp [burnishref52_Length.l0, lenF])
  ·rw [hv] at g; cases g
theorem rlen_any (h : Bk w AL cL Lat AP cP P AI cI B A3 c3 t1 A4 c4 t2 A5 c5 t3) (hB : sml B) (hLl : Lat.length < 1000000000) :
  Calls Tryd.prog 14 #[.agg #[.int .i64 W, .int .i64 R, .slice AL Lat.length cL], .agg #[.slice AP P.length cP, .slice AI B.length cI, .int .i64 t0, .slice A3 t1.length c3, .slice A4 t2.length c4, .slice A5 t3.length c5, .int .i64 t4]] w fun e w' => ∃ o y, e = .returned (.int .i64 (lenF Lat B o y 0)) ∧ IsB W R Lat B o y ∧ Below w.heap.size w w' := by
 obtain ⟨o, y, hi, hr⟩ := rlen_f2 (W := W) (R := R) (Lat := Lat) (P := P) (B := B) (t0 := t0) (t1 := t1) (t2 := t2) (t3 := t3) (t4 := t4) hB hLl
 obtain ⟨k, hk⟩ := hr.get
 refine (burnishref52_Length.calls k W R AL cL Lat AP cP P AI cI B t0 A3 c3 t1 A4 c4 t2 A5 c5 t3 t4 _ w h.rL h.hL h.rP h.hP h.rI h.hI h.r1 h.h1 h.r2 h.h2 h.r3 h.h3 hk).mono ?_
 rintro e w' ⟨rfl, hb⟩
 exact ⟨o, y, rfl, hi, hb⟩
end
end Go.Proofs.YtjacphcbiaacnaaDoor
end

section
/- model and large, as contracts over what is read. -/
set_option linter.unusedVariables false
set_option linter.unusedSimpArgs false
set_option linter.unusedSectionVars false
namespace Go.Proofs.YtjacphcbiaacnaaDoor
open Go.RowKit Go.Proofs.YtjacphcbiaacnaaDoorW.PrintWords Go.Proofs.YtjacphcbiaacnaaDoorW.PrintMore Go.Proofs.YtjacphcbiaacnaaDoorW.PrintLast Go.Proofs.YtjacphcbiaacnaaDoor.PDigraphTells Mem Sc
theorem large_any {w : World} {AL : Option Addr} {cL : Nat} {Lat : List Int} {AP : Option Addr} {cP : Nat} {P : List Int} {AI : Option Addr} {cI : Nat} {B : List S48} {A3 : Option Addr} {c3 : Nat} {t1 : List Int} {A4 : Option Addr} {c4 : Nat} {t2 : List Int} {A5 : Option Addr} {c5 : Nat} {t3 : List S98} (h : Bk w AL cL Lat AP cP P AI cI B A3 c3 t1 A4 c4 t2 A5 c5 t3) (t0 t4 : Int) : ∃ b, (b = false → sml B) ∧ ∀ W1 : World, Below w.heap.size w W1 →
  Calls Tryd.prog 7 #[.agg #[.slice AP P.length cP, .slice AI B.length cI, .int .i64 t0, .slice A3 t1.length c3, .slice A4 t2.length c4, .slice A5 t3.length c5, .int .i64 t4]] W1 fun e w' => e = .returned (.bool b) ∧ Below W1.heap.size W1 w' := by
 obtain ⟨b, hb, hs⟩ := large_f P B t0 t1 t2 t3 t4
 obtain ⟨k, hk⟩ := hb.get
 refine ⟨b, hs, fun W1 e1 => ?_⟩
 have g := h.below e1
 exact burnishlaw52_large.calls k AP cP P AI cI B t0 A3 c3 t1 A4 c4 t2 A5 c5 t3 t4 b W1 g.rP g.hP g.rI g.hI g.r1 g.h1 g.r2 g.h2 g.r3 g.h3 hk
end Go.Proofs.YtjacphcbiaacnaaDoor
end

section
/- SchedBlocks. -/
set_option linter.unusedVariables false
set_option linter.unusedSimpArgs false
set_option linter.unusedSectionVars false
namespace Go.Proofs.YtjacphcbiaacnaaDoor
open Go.RowKit Go.Proofs.YtjacphcbiaacnaaDoorW.PrintWords Go.Proofs.YtjacphcbiaacnaaDoorW.PrintMore Go.Proofs.YtjacphcbiaacnaaDoorW.PrintLast Go.Proofs.YtjacphcbiaacnaaDoor.PDigraphTells Mem Sc
section
variable {w w' : World} {W R : Int} {AL : Option Addr} {cL : Nat} {Lat : List Int} {AP : Option Addr} {cP : Nat} {P : List Int} {AI : Option Addr} {cI : Nat} {B : List S48} {A3 : Option Addr} {c3 : Nat} {t1 : List Int} {A4 : Option Addr} {c4 : Nat} {t2 : List Int} {A5 : Option Addr} {c5 : Nat} {t3 : List S98} {t0 t4 : Int}
/-- The program's and the reference's Length, their LowerBound: the same numbers in whatever world. -/
theorem lens_any (h : Bk w AL cL Lat AP cP P AI cI B A3 c3 t1 A4 c4 t2 A5 c5 t3) (hB : sml B) (hLl : Lat.length < 1000000000) (hDN : ∀ W1 : World, Below w.heap.size w W1 → DN W1) :
  ∃ L M : Int, (∃ o y, IsB W R Lat B o y ∧ L = lenF Lat B o y 0) ∧ IsLow W R Lat B M ∧ ∀ W1 : World, Below w.heap.size w W1 →
   Calls Tryd.prog 13 #[.agg #[.int .i64 W, .int .i64 R, .slice AL Lat.length cL], .agg #[.slice AP P.length cP, .slice AI B.length cI, .int .i64 t0, .slice A3 t1.length c3, .slice A4 t2.length c4, .slice A5 t3.length c5, .int .i64 t4]] W1 (fun e w' => e = .returned (.int .i64 L) ∧ Below W1.heap.size W1 w') ∧
   Calls Tryd.prog 14 #[.agg #[.int .i64 W, .int .i64 R, .slice AL Lat.length cL], .agg #[.slice AP P.length cP, .slice AI B.length cI, .int .i64 t0, .slice A3 t1.length c3, .slice A4 t2.length c4, .slice A5 t3.length c5, .int .i64 t4]] W1 (fun e w' => e = .returned (.int .i64 L) ∧ Below W1.heap.size W1 w') ∧
   Calls Tryd.prog 15 #[.agg #[.int .i64 W, .int .i64 R, .slice AL Lat.length cL], .agg #[.slice AP P.length cP, .slice AI B.length cI, .int .i64 t0, .slice A3 t1.length c3, .slice A4 t2.length c4, .slice A5 t3.length c5, .int .i64 t4]] W1 (fun e w' => e = .returned (.int .i64 M) ∧ Below W1.heap.size W1 w') ∧
   Calls Tryd.prog 16 #[.agg #[.int .i64 W, .int .i64 R, .slice AL Lat.length cL], .agg #[.slice AP P.length cP, .slice AI B.length cI, .int .i64 t0, .slice A3 t1.length c3, .slice A4 t2.length c4, .slice A5 t3.length c5, .int .i64 t4]] W1 (fun e w' => e = .returned (.int .i64 M) ∧ Below W1.heap.size W1 w') := by
 obtain ⟨o, y, hI, _⟩ := rlen_f2 (W := W) (R := R) (Lat := Lat) (P := P) (B := B) (t0 := t0) (t1 := t1) (t2 := t2) (t3 := t3) (t4 := t4) hB hLl
 obtain ⟨M, _, hM⟩ := rlow_f W R Lat P B t0 t1 t2 t3 t4 hB hLl
 refine ⟨lenF Lat B o y 0, M, ⟨o, y, hI, rfl⟩, hM, fun W1 e1 => ?_⟩
 have g := h.below e1
 refine ⟨(len_any g hB hLl (hDN W1 e1)).mono ?_, (rlen_any g hB hLl).mono ?_, (low_any g hB hLl).mono ?_, (rlow_any g hB hLl).mono ?_⟩
 ·rintro e w' ⟨o', y', rfl, h2, h3⟩
  obtain ⟨rfl, rfl⟩ := h2.uniq hI
  exact ⟨rfl, h3⟩
 ·rintro e w' ⟨o', y', rfl, h2, h3⟩
  obtain ⟨rfl, rfl⟩ := h2.uniq hI
  exact ⟨rfl, h3⟩
 ·rintro e w' ⟨r, rfl, h2, h3⟩
  obtain rfl := h2.uniq hM
  exact ⟨rfl, h3⟩
 ·rintro e w' ⟨r, rfl, h2, h3⟩
  obtain rfl := h2.uniq hM
  exact ⟨rfl, h3⟩
end
end Go.Proofs.YtjacphcbiaacnaaDoor
end

section
/- An argument's reading opened by its kind: whole numbers, bools, strings, slices and structs of these, to any depth. -/
set_option linter.unusedVariables false
set_option linter.unusedSimpArgs false
namespace Go.Proofs.YtjacphcbiaacnaaDoor.Opens
open Go.RowKit Go.Proofs.YtjacphcbiaacnaaDoorW.PrintWords Go.Proofs.YtjacphcbiaacnaaDoor.Mem Go.Deep

variable {H : Type} {enc : TypeId × Value → H} {P : Program} {W : World}

/-- Whatever cells read as a datum of type t hold a value of kind d, which is good. -/
structure Op {α : Type} (enc : TypeId × Value → H) (P : Program) (W : World) (t : TypeId) (d : Kd α) (good : α → Prop) : Prop where
 op : ∀ {fuel : Nat} {cs : List Value} {x : DataW H × List MemPlace}, DataW.trod enc P W 0 (fun _ => true) true fuel t cs = some x → (∀ n ∈ x.1.weights P t, n ≤ reachBytes) → ∃ y, d.K W y cs ∧ good y

theorem Op.int {t : TypeId} {k : IntKind} (ht : P.underlying t = some (.int k)) : Op enc P W t (Kd.int k) (fun n => (Lit.int k n).wf = true) :=
 ⟨fun h _ => by
  obtain ⟨n, rfl, _, hw⟩ := DataW.trod_int ht h
  exact ⟨n, rfl, hw⟩⟩
theorem Op.bool {t : TypeId} (ht : P.underlying t = some .bool) : Op enc P W t Kd.bool (fun _ => True) :=
 ⟨fun h _ => by
  obtain ⟨n, rfl, _⟩ := DataW.trod_bool ht h
  exact ⟨n, rfl, trivial⟩⟩
theorem Op.string {t : TypeId} (ht : P.underlying t = some .string) : Op enc P W t Kd.string (fun s => s.size ≤ 140737488351232) :=
 ⟨fun h hw => by
  obtain ⟨s, rfl, rfl, _⟩ := DataW.trod_string ht h
  exact ⟨s, rfl, by simpa [DataW.weights, reachBytes] using hw⟩⟩

theorem cell_of_cells {w : World} {a : Addr} {n : Nat} {cs : List Value} (h : w.cells? 0 a n = some cs) : cs.length = n ∧ ∀ i u, cs[i]? = some u → w.cell? (a.add i) = some u := by
 unfold World.cells? at h
 rw [if_pos (Nat.zero_le _)] at h
 have key : ∀ (l : List Nat) (cs : List Value), l.mapM (fun i => w.cell? (a.add i)) = some cs → cs.length = l.length ∧ ∀ (i j : Nat) u, l[i]? = some j → cs[i]? = some u → w.cell? (a.add j) = some u := by
  intro l
  induction l with
  | nil =>
   intro cs h
   simp at h
   subst h
   simp
  | cons b r ih =>
   intro cs h
   simp only [List.mapM_cons, Option.bind_eq_bind, Option.bind_eq_some_iff] at h
   obtain ⟨v, hv, ys, hys, he⟩ := h
   obtain rfl : v :: ys = cs := by simpa using he
   obtain ⟨h1, h2⟩ := ih ys hys
   refine ⟨by simp [h1], fun i j u hi hu => ?_⟩
   cases i with
   | zero => simp at hi hu; subst hi; subst hu; exact hv
   | succ i => exact h2 i j u (by simpa using hi) (by simpa using hu)
 obtain ⟨h1, h2⟩ := key _ _ h
 refine ⟨by simpa using h1, fun i u hu => h2 i i u ?_ hu⟩
 have hl : i < cs.length := (List.getElem?_eq_some_iff.1 hu).1
 rw [h1] at hl
 simp at hl
 simp [hl]

theorem weights_all {e : TypeId} : ∀ (l : List (DataW H)) (n : Nat) (i : Nat) (d : DataW H), l[i]? = some d → n ∈ d.weights P e → n ∈ DataW.weightsAll P e l
 | [], _, _, _, h, _ => by simp at h
 | d0 :: r, n, 0, d, h, hn => by
  simp at h
  subst h
  rw [DataW.weightsAll]
  exact List.mem_append_left _ hn
 | d0 :: r, n, i + 1, d, h, hn => by
  rw [DataW.weightsAll]
  exact List.mem_append_right _ (weights_all r n i d (by simpa using h) hn)

theorem build {β : Type} {n : Nat} {p : Nat → β → Prop} (h : ∀ i, i < n → ∃ y, p i y) : ∃ xs : List β, xs.length = n ∧ ∀ i, i < n → ∃ y, xs[i]? = some y ∧ p i y := by
 induction n with
 | zero => exact ⟨[], rfl, fun i hi => by omega⟩
 | succ m ih =>
  obtain ⟨xs, h1, h2⟩ := ih (fun i hi => h i (by omega))
  obtain ⟨y, g⟩ := h m (by omega)
  refine ⟨xs ++ [y], by simp [h1], fun i hi => ?_⟩
  by_cases e : i < m
  ·obtain ⟨y', h3, g'⟩ := h2 i e
   exact ⟨y', by rw [List.getElem?_append_left (by omega)]; exact h3, g'⟩
  ·obtain rfl : i = m := by omega
   exact ⟨y, by rw [← h1]; simp, g⟩

theorem Op.slice {α : Type} {t e : TypeId} {d : Kd α} {good : α → Prop} {B : Nat} (h : Op enc P W e d good) (ht : P.underlying t = some (.slice e)) (hc : P.cellsOf e = d.sz) (hB : P.bytesOf e = B) :
  Op enc P W t (Kd.slice e d) (fun xs => xs.length * B ≤ 140737488351232 ∧ ∀ x ∈ xs, good x) := by
 refine ⟨fun {fuel cs x} hx hw => ?_⟩
 rcases DataW.trod_slice ht hx with ⟨rfl, rfl⟩ | ⟨a, len, cap, elems, rest, n, rfl, rfl, rfl, _, hl, hm, hel, hcell, _, _⟩
 ·exact ⟨[], ⟨none, 0, rfl, Nat.le_refl _, Kd.C_nil d W⟩, by simp, fun x hx => by simp at hx⟩
 ·have hsz : (elems.length + rest.length) * B ≤ 140737488351232 := by
   have := hw ((elems.length + rest.length) * P.bytesOf e) (by simp [DataW.weights, ht])
   simpa [hB, reachBytes] using this
  have each : ∀ i, i < len → ∃ y c, c.length = d.sz ∧ (∀ j u, c[j]? = some u → W.cell? ((a.add (i * d.sz)).add j) = some u) ∧ d.K W y c ∧ good y := by
   intro i hi
   have h1 := hcell i hi
   have hi2 : i < elems.length := by omega
   rw [List.getElem?_eq_getElem hi2, Option.bind_eq_some_iff] at h1
   obtain ⟨c, hc1, hc2⟩ := h1
   obtain ⟨y, hy, hg⟩ := h.op hc2 (fun n hn => hw n (by
    simp only [DataW.weights, ht]
    refine List.mem_cons_of_mem _ (List.mem_append_left _ (weights_all _ n i elems[i].1 ?_ hn))
    simp [hi2]))
   rw [hc] at hc1
   obtain ⟨g1, g2⟩ := cell_of_cells hc1
   exact ⟨y, c, g1, g2, hy, hg⟩
  have hxs : ∃ xs : List α, xs.length = len ∧ ∀ i, i < len → ∃ y, xs[i]? = some y ∧ ∃ c, c.length = d.sz ∧ (∀ j u, c[j]? = some u → W.cell? ((a.add (i * d.sz)).add j) = some u) ∧ d.K W y c ∧ good y := build each
  obtain ⟨xs, h1, h2⟩ := hxs
  refine ⟨xs, ⟨some a, cap, by rw [h1], by omega, ?_⟩, ?_, ?_⟩
  ·refine ⟨rfl, by rw [h1]; unfold maxLen at hm; omega, fun _ => ⟨a, rfl, fun j p hj => ?_⟩⟩
   have hjl : j < len := by
    have := (List.getElem?_eq_some_iff.1 hj).1
    omega
   obtain ⟨y, e1, c, g1, g2, g3, g4⟩ := h2 j hjl
   rw [hj] at e1
   injection e1 with e1
   subst e1
   refine ⟨c, g1, g3, fun i u hu => ?_⟩
   have := g2 i u hu
   rwa [Go.Deep.add_add] at this
  ·refine Nat.le_trans (Nat.mul_le_mul_right _ ?_) hsz
   omega
  ·intro x hx
   obtain ⟨i, hi, rfl⟩ := List.getElem_of_mem hx
   obtain ⟨y, e1, c, g1, g2, g3, g4⟩ := h2 i (by omega)
   rw [List.getElem?_eq_getElem hi] at e1
   injection e1 with e1
   exact e1 ▸ g4

/-- The fields fs of a struct, from the cell at off on, hold a value of kind d. -/
structure Fs {α : Type} (enc : TypeId × Value → H) (P : Program) (W : World) (fs : List Field) (off : Nat) (d : Kd α) (good : α → Prop) : Prop where
 op : ∀ {fuel : Nat} {cs : List Value} {xs : List (DataW H × List MemPlace)}, xs.length = fs.length → (∀ (i : Nat) (f : Field), fs[i]? = some f → DataW.trod enc P W 0 (fun _ => true) true fuel f.type ((cs.drop f.offset).take (P.cellsOf f.type)) = xs[i]?) →
  (∀ n ∈ DataW.weightsEach P (fs.map (·.type)) (xs.map (·.1)), n ≤ reachBytes) → ∃ y, d.K W y ((cs.drop off).take d.sz) ∧ good y

theorem Fs.one {α : Type} {f : Field} {d : Kd α} {good : α → Prop} (h : Op enc P W f.type d good) (hc : P.cellsOf f.type = d.sz) : Fs enc P W [f] f.offset d good := by
 refine ⟨fun {fuel cs xs} hl hx hw => ?_⟩
 match xs, hl with
 | [x], _ =>
  have h1 := hx 0 f rfl
  obtain ⟨y, hy, hg⟩ := h.op h1 (fun n hn => hw n (by simp [DataW.weightsEach, hn]))
  rw [hc] at hy
  exact ⟨y, hy, hg⟩
theorem Fs.cons {α β : Type} {f : Field} {fs : List Field} {a : Kd α} {b : Kd β} {ga : α → Prop} {gb : β → Prop} {off : Nat} (h : Op enc P W f.type a ga) (k : Fs enc P W fs off b gb) (hc : P.cellsOf f.type = a.sz) (ho : off = f.offset + a.sz) :
  Fs enc P W (f :: fs) f.offset (Kd.pair a b) (fun x => ga x.1 ∧ gb x.2) := by
 refine ⟨fun {fuel cs xs} hl hx hw => ?_⟩
 match xs, hl with
 | x :: r, hl =>
  have h1 := hx 0 f rfl
  obtain ⟨y, hy, hg⟩ := h.op h1 (fun n hn => hw n (by simp [DataW.weightsEach, hn]))
  obtain ⟨z, hz, hgz⟩ := k.op (cs := cs) (xs := r) (by simpa using hl) (fun i f' hf => by simpa using hx (i + 1) f' (by simpa using hf)) (fun n hn => hw n (by
   simp only [List.map_cons, DataW.weightsEach]
   exact List.mem_append_right _ hn))
  rw [hc] at hy
  refine ⟨(y, z), ⟨_, _, ?_, hy, hz⟩, hg, hgz⟩
  rw [ho, ← List.drop_drop]
  show List.take (a.sz + b.sz) _ = _
  rw [List.take_add]
theorem Op.struct {α β : Type} {t : TypeId} {fs : Array Field} {l : List Field} {d : Kd α} {good : α → Prop} (h : Fs enc P W l 0 d good) (ht : P.underlying t = some (.struct fs)) (hl : fs.toList = l) (hc : P.cellsOf t = d.sz) (f : β → α) (g : α → β) (hfg : ∀ z, f (g z) = z) :
  Op enc P W t (Kd.iso d f) (fun y => good (f y)) := by
 refine ⟨fun {fuel cs x} hx hw => ?_⟩
 obtain ⟨xs, n, rfl, rfl, hcs, hxl, hall⟩ := DataW.trod_struct ht hx
 obtain ⟨y, hy, hg⟩ := h.op (fuel := n) (cs := cs) (xs := xs) (by rw [← hl]; simpa using hxl) (fun i f' hf => hall i f' (by rw [← hl] at hf; simpa using hf)) (fun n hn => hw n (by simpa [DataW.weights, ht, hl] using hn))
 refine ⟨g y, ?_, by rw [hfg]; exact hg⟩
 show d.K W (f (g y)) cs
 rw [hfg]
 have e : (cs.drop 0).take d.sz = cs := by rw [List.drop_zero, ← hc, ← hcs, List.take_length]
 rwa [e] at hy
theorem Op.imp {α : Type} {t : TypeId} {d : Kd α} {good good' : α → Prop} (h : Op enc P W t d good) (hg : ∀ x, good x → good' x) : Op enc P W t d good' := ⟨fun hx hw => by
 obtain ⟨y, hy, hgy⟩ := h.op hx hw
 exact ⟨y, hy, hg y hgy⟩⟩

/-- An argument that is a struct. -/
theorem Op.arg_agg {α : Type} {t : TypeId} {d : Kd α} {good : α → Prop} {v : Value} {x : DataW H} {p : List MemPlace} (h : Op enc P W t d good) (hv : ∃ cs, v = .agg cs) (hx : DataW.Trod enc P W 0 (fun _ => true) true t v x p)
  (hw : ∀ n ∈ x.weights P t, n ≤ reachBytes) : ∃ y cs, v = .agg cs ∧ d.K W y cs.toList ∧ good y := by
 obtain ⟨cs, rfl⟩ := hv
 obtain ⟨fuel, hf⟩ := hx
 obtain ⟨y, hy, hg⟩ := h.op hf hw
 exact ⟨y, cs, rfl, by simpa [Value.cells] using hy, hg⟩
theorem weight_of {ts : List TypeId} {ds : List (DataW H)} (h : (DataW.weightsEach P ts ds).all (· ≤ reachBytes) = true) {j : Nat} {t : TypeId} {d : DataW H} (ht : ts[j]? = some t) (hd : ds[j]? = some d) : ∀ n ∈ d.weights P t, n ≤ reachBytes :=
 fun n hn => by simpa using List.all_eq_true.1 h n (DataW.weights_mem_each ht hd n hn)
end Go.Proofs.YtjacphcbiaacnaaDoor.Opens
end

section
/- How the arguments' types read: printed by wip/bin/mkOp.py. -/
set_option linter.unusedVariables false
set_option linter.unusedSimpArgs false
namespace Go.Proofs.YtjacphcbiaacnaaDoor
open Go.RowKit Go.Proofs.YtjacphcbiaacnaaDoorW.PrintWords Go.Proofs.YtjacphcbiaacnaaDoorW.PrintMore Go.Proofs.YtjacphcbiaacnaaDoor.PDigraphTells
structure S24 where
 f0 : Int
 f1 : Int
 f2 : (List Int)
def k24 : Kd S24 := Kd.iso (Kd.pair (Kd.int .i64) (Kd.pair (Kd.int .i64) (Kd.slice 3 (Kd.int .i64)))) (fun x : S24 => (x.f0, x.f1, x.f2))
theorem op24_open {w : World} {x : S24} {cs : List Value} (h : k24.K w x cs) : ∃ A_2 c_2, cs = [(.int .i64 x.f0), (.int .i64 x.f1), (.slice A_2 x.f2.length c_2)] ∧ x.f2.length ≤ c_2 ∧ Kd.C (Kd.int .i64) w A_2 x.f2.length x.f2 := by
 obtain ⟨_, _, rfl, rfl, ⟨_, _, rfl, rfl, ⟨A_2, c_2, rfl, l_2, g_2⟩⟩⟩ := h
 exact ⟨A_2, c_2, rfl, l_2, g_2⟩
def good24 (x : S24) : Prop := (Lit.int .i64 x.f0).wf = true ∧ (Lit.int .i64 x.f1).wf = true ∧ (x.f2.length * Tryd.prog.bytesOf 3 ≤ 140737488351232 ∧ ∀ y ∈ x.f2, (Lit.int .i64 y).wf = true)
def fld24_0 : Field := { name := "IssueWidth", type := 3, offset := 0, embedded := false, tag := "", pkgPath := "", byteOffset := 0 }
def fld24_1 : Field := { name := "NumRegs", type := 3, offset := 1, embedded := false, tag := "", pkgPath := "", byteOffset := 8 }
def fld24_2 : Field := { name := "Latency", type := 22, offset := 2, embedded := false, tag := "", pkgPath := "", byteOffset := 16 }
theorem op24 {H : Type} {enc : TypeId × Value → H} {W : World} : Opens.Op enc Tryd.prog W 24 k24 good24 :=
 (Opens.Op.struct (Opens.Fs.cons (f := fld24_0) (Opens.Op.int Tryd.underlying3) (Opens.Fs.cons (f := fld24_1) (Opens.Op.int Tryd.underlying3) (Opens.Fs.one (f := fld24_2) (Opens.Op.slice (Opens.Op.int Tryd.underlying3) Tryd.underlying22 (by kernel_rfl) rfl) (by kernel_rfl)) (by kernel_rfl) rfl) (by kernel_rfl) rfl) Tryd.underlying24 rfl (by kernel_rfl) (fun x : S24 => (x.f0, x.f1, x.f2)) (fun z => ⟨z.1, z.2.1, z.2.2⟩) (fun _ => rfl)).imp (fun (x : S24) h => h)
def good48 (x : S48) : Prop := (Lit.int .i64 x.f0).wf = true ∧ (Lit.int .i64 x.f1).wf = true ∧ (Lit.int .i64 x.f2).wf = true ∧ (x.f3.length * Tryd.prog.bytesOf 3 ≤ 140737488351232 ∧ ∀ y ∈ x.f3, (Lit.int .i64 y).wf = true) ∧ (Lit.int .i64 x.f4).wf = true ∧ (Lit.int .i64 x.f5).wf = true ∧ (Lit.int .i64 x.f6).wf = true ∧ True
def fld48_0 : Field := { name := "Op", type := 3, offset := 0, embedded := false, tag := "", pkgPath := "", byteOffset := 0 }
def fld48_1 : Field := { name := "Type", type := 46, offset := 1, embedded := false, tag := "", pkgPath := "", byteOffset := 8 }
def fld48_2 : Field := { name := "Dst", type := 3, offset := 2, embedded := false, tag := "", pkgPath := "", byteOffset := 16 }
def fld48_3 : Field := { name := "Args", type := 22, offset := 3, embedded := false, tag := "", pkgPath := "", byteOffset := 24 }
def fld48_4 : Field := { name := "Imm", type := 2, offset := 4, embedded := false, tag := "", pkgPath := "", byteOffset := 48 }
def fld48_5 : Field := { name := "Sym", type := 3, offset := 5, embedded := false, tag := "", pkgPath := "", byteOffset := 56 }
def fld48_6 : Field := { name := "Elem", type := 46, offset := 6, embedded := false, tag := "", pkgPath := "", byteOffset := 64 }
def fld48_7 : Field := { name := "NoWrap", type := 4, offset := 7, embedded := false, tag := "", pkgPath := "", byteOffset := 72 }
theorem op48 {H : Type} {enc : TypeId × Value → H} {W : World} : Opens.Op enc Tryd.prog W 48 k48 good48 :=
 (Opens.Op.struct (Opens.Fs.cons (f := fld48_0) (Opens.Op.int Tryd.underlying3) (Opens.Fs.cons (f := fld48_1) (Opens.Op.int Tryd.underlying46) (Opens.Fs.cons (f := fld48_2) (Opens.Op.int Tryd.underlying3) (Opens.Fs.cons (f := fld48_3) (Opens.Op.slice (Opens.Op.int Tryd.underlying3) Tryd.underlying22 (by kernel_rfl) rfl) (Opens.Fs.cons (f := fld48_4) (Opens.Op.int Tryd.underlying2) (Opens.Fs.cons (f := fld48_5) (Opens.Op.int Tryd.underlying3) (Opens.Fs.cons (f := fld48_6) (Opens.Op.int Tryd.underlying46) (Opens.Fs.one (f := fld48_7) (Opens.Op.bool Tryd.underlying4) (by kernel_rfl)) (by kernel_rfl) rfl) (by kernel_rfl) rfl) (by kernel_rfl) rfl) (by kernel_rfl) rfl) (by kernel_rfl) rfl) (by kernel_rfl) rfl) (by kernel_rfl) rfl) Tryd.underlying48 rfl (by kernel_rfl) (fun x : S48 => (x.f0, x.f1, x.f2, x.f3, x.f4, x.f5, x.f6, x.f7)) (fun z => ⟨z.1, z.2.1, z.2.2.1, z.2.2.2.1, z.2.2.2.2.1, z.2.2.2.2.2.1, z.2.2.2.2.2.2.1, z.2.2.2.2.2.2.2⟩) (fun _ => rfl)).imp (fun (x : S48) h => h)
def good98 (x : S98) : Prop := (Lit.int .i64 x.f0).wf = true ∧ (x.f1.length * Tryd.prog.bytesOf 3 ≤ 140737488351232 ∧ ∀ y ∈ x.f1, (Lit.int .i64 y).wf = true)
def fld98_0 : Field := { name := "Block", type := 3, offset := 0, embedded := false, tag := "", pkgPath := "", byteOffset := 0 }
def fld98_1 : Field := { name := "Args", type := 22, offset := 1, embedded := false, tag := "", pkgPath := "", byteOffset := 8 }
theorem op98 {H : Type} {enc : TypeId × Value → H} {W : World} : Opens.Op enc Tryd.prog W 98 k98 good98 :=
 (Opens.Op.struct (Opens.Fs.cons (f := fld98_0) (Opens.Op.int Tryd.underlying3) (Opens.Fs.one (f := fld98_1) (Opens.Op.slice (Opens.Op.int Tryd.underlying3) Tryd.underlying22 (by kernel_rfl) rfl) (by kernel_rfl)) (by kernel_rfl) rfl) Tryd.underlying98 rfl (by kernel_rfl) (fun x : S98 => (x.f0, x.f1)) (fun z => ⟨z.1, z.2⟩) (fun _ => rfl)).imp (fun (x : S98) h => h)
theorem op29_open {w : World} {x : S29} {cs : List Value} (h : k29.K w x cs) : ∃ A_1 c_1 A_2 c_2 A_3 c_3, cs = [(.int .i64 x.f0), (.slice A_1 x.f1.length c_1), (.slice A_2 x.f2.length c_2), (.slice A_3 x.f3.length c_3), (.int .i64 x.f4)] ∧ x.f1.length ≤ c_1 ∧ Kd.C (Kd.int .i64) w A_1 x.f1.length x.f1 ∧ x.f2.length ≤ c_2 ∧ Kd.C (Kd.int .i64) w A_2 x.f2.length x.f2 ∧ x.f3.length ≤ c_3 ∧ Kd.C k98 w A_3 x.f3.length x.f3 := by
 obtain ⟨_, _, rfl, rfl, ⟨_, _, rfl, ⟨A_1, c_1, rfl, l_1, g_1⟩, ⟨_, _, rfl, ⟨A_2, c_2, rfl, l_2, g_2⟩, ⟨_, _, rfl, ⟨A_3, c_3, rfl, l_3, g_3⟩, rfl⟩⟩⟩⟩ := h
 exact ⟨A_1, c_1, A_2, c_2, A_3, c_3, rfl, l_1, g_1, l_2, g_2, l_3, g_3⟩
def good29 (x : S29) : Prop := (Lit.int .i64 x.f0).wf = true ∧ (x.f1.length * Tryd.prog.bytesOf 3 ≤ 140737488351232 ∧ ∀ y ∈ x.f1, (Lit.int .i64 y).wf = true) ∧ (x.f2.length * Tryd.prog.bytesOf 2 ≤ 140737488351232 ∧ ∀ y ∈ x.f2, (Lit.int .i64 y).wf = true) ∧ (x.f3.length * Tryd.prog.bytesOf 98 ≤ 140737488351232 ∧ ∀ y ∈ x.f3, good98 y) ∧ (Lit.int .i64 x.f4).wf = true
def fld29_0 : Field := { name := "Kind", type := 3, offset := 0, embedded := false, tag := "", pkgPath := "", byteOffset := 0 }
def fld29_1 : Field := { name := "Args", type := 22, offset := 1, embedded := false, tag := "", pkgPath := "", byteOffset := 8 }
def fld29_2 : Field := { name := "Cases", type := 26, offset := 2, embedded := false, tag := "", pkgPath := "", byteOffset := 32 }
def fld29_3 : Field := { name := "Succs", type := 27, offset := 3, embedded := false, tag := "", pkgPath := "", byteOffset := 56 }
def fld29_4 : Field := { name := "Sym", type := 3, offset := 4, embedded := false, tag := "", pkgPath := "", byteOffset := 80 }
theorem op29 {H : Type} {enc : TypeId × Value → H} {W : World} : Opens.Op enc Tryd.prog W 29 k29 good29 :=
 (Opens.Op.struct (Opens.Fs.cons (f := fld29_0) (Opens.Op.int Tryd.underlying3) (Opens.Fs.cons (f := fld29_1) (Opens.Op.slice (Opens.Op.int Tryd.underlying3) Tryd.underlying22 (by kernel_rfl) rfl) (Opens.Fs.cons (f := fld29_2) (Opens.Op.slice (Opens.Op.int Tryd.underlying2) Tryd.underlying26 (by kernel_rfl) rfl) (Opens.Fs.cons (f := fld29_3) (Opens.Op.slice op98 Tryd.underlying27 (by kernel_rfl) rfl) (Opens.Fs.one (f := fld29_4) (Opens.Op.int Tryd.underlying3) (by kernel_rfl)) (by kernel_rfl) rfl) (by kernel_rfl) rfl) (by kernel_rfl) rfl) (by kernel_rfl) rfl) Tryd.underlying29 rfl (by kernel_rfl) (fun x : S29 => (x.f0, x.f1, x.f2, x.f3, x.f4)) (fun z => ⟨z.1, z.2.1, z.2.2.1, z.2.2.2.1, z.2.2.2.2⟩) (fun _ => rfl)).imp (fun (x : S29) h => h)
theorem op31_open {w : World} {x : S31} {cs : List Value} (h : k31.K w x cs) : ∃ A_0 c_0 A_1 c_1 A_2_1 c_2_1 A_2_2 c_2_2 A_2_3 c_2_3, cs = [(.slice A_0 x.f0.length c_0), (.slice A_1 x.f1.length c_1), (.int .i64 x.f2.f0), (.slice A_2_1 x.f2.f1.length c_2_1), (.slice A_2_2 x.f2.f2.length c_2_2), (.slice A_2_3 x.f2.f3.length c_2_3), (.int .i64 x.f2.f4)] ∧ x.f0.length ≤ c_0 ∧ Kd.C (Kd.int .i64) w A_0 x.f0.length x.f0 ∧ x.f1.length ≤ c_1 ∧ Kd.C k48 w A_1 x.f1.length x.f1 ∧ x.f2.f1.length ≤ c_2_1 ∧ Kd.C (Kd.int .i64) w A_2_1 x.f2.f1.length x.f2.f1 ∧ x.f2.f2.length ≤ c_2_2 ∧ Kd.C (Kd.int .i64) w A_2_2 x.f2.f2.length x.f2.f2 ∧ x.f2.f3.length ≤ c_2_3 ∧ Kd.C k98 w A_2_3 x.f2.f3.length x.f2.f3 := by
 obtain ⟨_, _, rfl, ⟨A_0, c_0, rfl, l_0, g_0⟩, ⟨_, _, rfl, ⟨A_1, c_1, rfl, l_1, g_1⟩, s_2⟩⟩ := h
 obtain ⟨A_2_1, c_2_1, A_2_2, c_2_2, A_2_3, c_2_3, rfl, q_2_0, q_2_1, q_2_2, q_2_3, q_2_4, q_2_5⟩ := op29_open s_2
 exact ⟨A_0, c_0, A_1, c_1, A_2_1, c_2_1, A_2_2, c_2_2, A_2_3, c_2_3, rfl, l_0, g_0, l_1, g_1, q_2_0, q_2_1, q_2_2, q_2_3, q_2_4, q_2_5⟩
def good31 (x : S31) : Prop := (x.f0.length * Tryd.prog.bytesOf 3 ≤ 140737488351232 ∧ ∀ y ∈ x.f0, (Lit.int .i64 y).wf = true) ∧ (x.f1.length * Tryd.prog.bytesOf 48 ≤ 140737488351232 ∧ ∀ y ∈ x.f1, good48 y) ∧ good29 x.f2
def fld31_0 : Field := { name := "Params", type := 22, offset := 0, embedded := false, tag := "", pkgPath := "", byteOffset := 0 }
def fld31_1 : Field := { name := "Instrs", type := 25, offset := 1, embedded := false, tag := "", pkgPath := "", byteOffset := 24 }
def fld31_2 : Field := { name := "Term", type := 29, offset := 2, embedded := false, tag := "", pkgPath := "", byteOffset := 48 }
theorem op31 {H : Type} {enc : TypeId × Value → H} {W : World} : Opens.Op enc Tryd.prog W 31 k31 good31 :=
 (Opens.Op.struct (Opens.Fs.cons (f := fld31_0) (Opens.Op.slice (Opens.Op.int Tryd.underlying3) Tryd.underlying22 (by kernel_rfl) rfl) (Opens.Fs.cons (f := fld31_1) (Opens.Op.slice op48 Tryd.underlying25 (by kernel_rfl) rfl) (Opens.Fs.one (f := fld31_2) op29 (by kernel_rfl)) (by kernel_rfl) rfl) (by kernel_rfl) rfl) Tryd.underlying31 rfl (by kernel_rfl) (fun x : S31 => (x.f0, x.f1, x.f2)) (fun z => ⟨z.1, z.2.1, z.2.2⟩) (fun _ => rfl)).imp (fun (x : S31) h => h)
end Go.Proofs.YtjacphcbiaacnaaDoor
end

section
/- EqualFunc over rows of ints; SchedDependences. -/
set_option linter.unusedVariables false
set_option linter.unusedSimpArgs false
set_option linter.unusedSectionVars false
namespace Go.Proofs.YtjacphcbiaacnaaDoor
open Go.RowKit Go.Proofs.YtjacphcbiaacnaaDoorW.PrintWords Go.Proofs.YtjacphcbiaacnaaDoorW.PrintMore Go.Proofs.YtjacphcbiaacnaaDoorW.PrintLast Go.Proofs.YtjacphcbiaacnaaDoor.PDigraphTells Mem Sc
section
variable {w w' : World} {W R : Int} {AL : Option Addr} {cL : Nat} {Lat : List Int} {AP : Option Addr} {cP : Nat} {P : List Int} {AI : Option Addr} {cI : Nat} {B : List S48} {A3 : Option Addr} {c3 : Nat} {t1 : List Int} {A4 : Option Addr} {c4 : Nat} {t2 : List Int} {A5 : Option Addr} {c5 : Nat} {t3 : List S98} {t0 t4 : Int}
theorem deps_rd (h : Bk w AL cL Lat AP cP P AI cI B A3 c3 t1 A4 c4 t2 A5 c5 t3) (hB : sml B) (t0 t4 : Int) :
  Calls Tryd.prog 18 #[.agg #[.slice AP P.length cP, .slice AI B.length cI, .int .i64 t0, .slice A3 t1.length c3, .slice A4 t2.length c4, .slice A5 t3.length c5, .int .i64 t4]] w fun e w' => ∃ A c, e = .returned (.slice A (depL B).length c) ∧ Kd.C (Kd.slice 3 (Kd.int .i64)) w' A (depL B).length (depL B) ∧ Below w.heap.size w w' := by
 refine (deps_any h hB t0 t4).mono ?_
 rintro e w' ⟨v, rfl, hS, hb⟩
 obtain ⟨A, c, rfl, hc, hC⟩ := Kd.R_reads (Kd.R_bound (Kd.S_R hS))
 exact ⟨A, c, rfl, hC, hb⟩
end
end Go.Proofs.YtjacphcbiaacnaaDoor
end

section
/- SchedOrders in plain lists: what the order satisfies; the lower bound is no more than the length. -/
set_option linter.unusedVariables false
set_option linter.unusedSimpArgs false
set_option linter.unusedSectionVars false
namespace Go.Proofs.YtjacphcbiaacnaaDoor
open Go.RowKit Go.Proofs.YtjacphcbiaacnaaDoorW.PrintWords Go.Proofs.YtjacphcbiaacnaaDoor.PDigraphTells Sc
theorem lenF_ge (Lat : List Int) (B : List S48) : ∀ (o y : List Int) (m : Int), m ≤ lenF Lat B o y m
 | [], _, m => by rw [show lenF Lat B [] _ m = m by (unfold lenF; rfl)]; exact Int.le_refl _
 | a :: o, [], m => by rw [show lenF Lat B (a :: o) [] m = m by (unfold lenF; rfl)]; exact Int.le_refl _
 | a :: o, c :: y, m => by
  rw [lenF]
  have h1 := lenF_ge Lat B o y (mx m (c + latI Lat (rd_T48 B a).f0))
  have h2 : m ≤ mx m (c + latI Lat (rd_T48 B a).f0) := by unfold mx; split <;> omega
  exact Int.le_trans h2 h1
theorem lenF_at (Lat : List Int) (B : List S48) : ∀ (o y : List Int) (m : Int) (j : Nat) (h1 : j < o.length) (h2 : j < y.length), y[j] + latI Lat (rd_T48 B o[j]).f0 ≤ lenF Lat B o y m
 | [], _, m, j, h1, _ => by simp at h1
 | a :: o, [], m, j, _, h2 => by simp at h2
 | a :: o, c :: y, m, 0, _, _ => by
  rw [lenF]
  have h1 := lenF_ge Lat B o y (mx m (c + latI Lat (rd_T48 B a).f0))
  have h2 : c + latI Lat (rd_T48 B a).f0 ≤ mx m (c + latI Lat (rd_T48 B a).f0) := by unfold mx; split <;> omega
  exact Int.le_trans h2 h1
 | a :: o, c :: y, m, j + 1, h1, h2 => by
  rw [lenF]
  exact lenF_at Lat B o y _ j (by simpa using h1) (by simpa using h2)
theorem oL_get (s : St) (j : Nat) (h : j < s.o.length) : (oL s)[j]'(by rw [oL_len]; exact h) = (s.o[j] : Int) := by simp [oL]
/-- What the finished run satisfies, read along the order. -/
structure Along (S : Ins) (s : St) : Prop where
 ol : s.o.length = S.n
 yl : s.y.length = S.n
 at_ : ∀ j (h : j < s.o.length), s.o[j] < S.n ∧ s.o[j] ∉ s.o.take j ∧ rd s.y (j : Int) = s.t s.o[j] ∧ 0 ≤ s.t s.o[j]
 mono : ∀ j : Nat, 0 < j → j < s.o.length → rd s.y ((j - 1 : Nat) : Int) ≤ rd s.y (j : Int)
 gap : ∀ j : Nat, S.w ≤ j → j < s.o.length → rd s.y ((j - S.w : Nat) : Int) < rd s.y (j : Int)
 dep : ∀ j (h : j < s.o.length), ∀ i, i < s.o[j] → S.D s.o[j] i = true → i ∈ s.o.take j ∧ 0 ≤ s.t i ∧ s.t i + S.dl i s.o[j] ≤ s.t s.o[j]
theorem rd_getD (y : List Int) (j : Nat) : rd y (j : Int) = y.getD j 0 := by simp [rd]
theorem Fin.along {S : Ins} {T : List Int} {s : St} (h : Fin S T s) : Along S s := by
 obtain ⟨c, hi, hw⟩ := h.inv
 refine ⟨h.all, by rw [hi.yl]; exact h.all, fun j hj => ?_, fun j h0 hj => ?_, fun j h0 hj => ?_, fun j hj i h1 h2 => ?_⟩
 ·have hm := List.getElem_mem hj
  have hl := hi.lt _ hm
  refine ⟨hl, fun hc => ?_, ?_, ((hi.at_ _ hl).1 hm)⟩
  ·obtain ⟨i, hi2, e⟩ := List.getElem_of_mem hc
   have hij : i < j := by rw [List.length_take] at hi2; omega
   rw [List.getElem_take] at e
   have := (List.getElem_inj hi.nd).1 e
   omega
  ·rw [rd_get _ j (by rw [hi.yl]; exact hj)]
   exact (List.getElem?_eq_some_iff.1 (hi.yt j hj)).2
 ·rw [rd_getD, rd_getD]
  have := hw.mono (j - 1) (by rw [hi.yl]; omega)
  rwa [show j - 1 + 1 = j by omega] at this
 ·rw [rd_getD, rd_getD]
  exact hw.gap j h0 (by rw [hi.yl]; exact hj)
 ·have := hi.dep _ (List.getElem_mem hj) i h1 h2
  exact ⟨hi.ord j hj i h1 h2, this⟩
/-- The cycles of what is scheduled among the first j, else -1. -/
def atL (n : Nat) (s : St) (j : Nat) : List Int := tbn n fun c => if c ∈ s.o.take j then s.t c else -1
theorem atL_len (n : Nat) (s : St) (j : Nat) : (atL n s j).length = n := tbn_len _ _
theorem atL_rd {n : Nat} {s : St} {j c : Nat} (h : c < n) : rd (atL n s j) (c : Int) = if c ∈ s.o.take j then s.t c else -1 := tbn_rd _ h
theorem atL_set {n : Nat} {s : St} {j : Nat} (h : j < s.o.length) : (atL n s j).set s.o[j] (s.t s.o[j]) = atL n s (j + 1) := by
 unfold atL
 rw [tbn_set]
 refine tbn_ext fun c hc => ?_
 rw [List.take_succ_eq_append_getElem h]
 by_cases e : c = s.o[j]
 ·rw [if_pos e, if_pos (List.mem_append_right _ (by rw [e]; exact List.mem_singleton.2 rfl)), e]
 ·rw [if_neg e]
  by_cases e2 : c ∈ s.o.take j
  ·rw [if_pos e2, if_pos (List.mem_append_left _ e2)]
  ·rw [if_neg e2, if_neg]
   intro h2
   rcases List.mem_append.1 h2 with h2 | h2
   ·exact e2 h2
   ·exact e (by simpa using h2)
/-- The row while it is being filled with -1. -/
def fillL (n i : Nat) : List Int := List.replicate i (-1) ++ List.replicate (n - i) 0
theorem fillL_set {n i : Nat} (h : i < n) : (fillL n i).set i (-1) = fillL n (i + 1) := by
 unfold fillL
 rw [List.set_append_right _ _ (by simp), List.length_replicate, Nat.sub_self, show n - i = (n - (i + 1)) + 1 by omega, List.replicate_succ, List.set_cons_zero, List.replicate_succ', List.append_assoc]
 rfl
theorem fillL_zero (n : Nat) : fillL n 0 = List.replicate n 0 := by simp [fillL]
theorem fillL_end (n : Nat) (s : St) : fillL n n = atL n s 0 := by
 unfold fillL atL
 refine List.ext_getElem (by simp [tbn]) fun j h1 h2 => ?_
 simp [tbn]
theorem low_len {W R : Int} {Lat : List Int} {B : List S48} {T : List Int} {s : St} {M L : Int} (hB : B.length ≤ 60) (hv : validB W R Lat = true) (hF : Fin (insS W Lat B) T s) (hM : IsLow W R Lat B M) (hL : ∃ o y, IsB W R Lat B o y ∧ L = lenF Lat B o y 0) : M ≤ L := by
 obtain ⟨o, y, hI, rfl⟩ := hL
 obtain ⟨rfl, rfl⟩ := hI.uniq (.inr ⟨hv, T, s, hF, rfl, rfl⟩)
 obtain ⟨c, hi, hw⟩ := hF.inv
 have hnn : (insS W Lat B).n = B.length := rfl
 have hall := hF.all
 have hS := insS_ok hv hB
 rcases hM with ⟨_, rfl⟩ | ⟨_, hn, U, hU, hm⟩
 ·exact lenF_ge Lat B _ _ 0
 have := hU.uniq hF.hp
 subst this
 have hj : ∀ j (h : j < s.o.length), s.t s.o[j] + (insS W Lat B).lt s.o[j] ≤ lenF Lat B (oL s) s.y 0 := fun j h => by
  have h1 := lenF_at Lat B (oL s) s.y 0 j (by rw [oL_len]; exact h) (by rw [hi.yl]; exact h)
  rw [oL_get s j h, (List.getElem?_eq_some_iff.1 (hi.yt j h)).2] at h1
  exact h1
 have hk : ∀ k, k < (insS W Lat B).n → s.t k + (insS W Lat B).lt k ≤ lenF Lat B (oL s) s.y 0 := fun k hk => by
  obtain ⟨j, h, rfl⟩ := List.getElem_of_mem (all_in hi hall hk)
  exact hj j h
 have hT : ∀ x ∈ U, x ≤ lenF Lat B (oL s) s.y 0 := fun x hx => by
  obtain ⟨i, h, rfl⟩ := List.getElem_of_mem hx
  have hin : i < (insS W Lat B).n := by rw [hF.hp.len] at h; exact h
  have h1 := height_le hF.hp.hs hi hall hk (insS W Lat B).n i (by omega) hin
  have h2 := (hi.at_ i hin).1 (all_in hi hall hin)
  have h3 : rd U (i : Int) = U[i] := rd_get U i h
  have h1 : s.t i + rd U (i : Int) ≤ _ := h1
  rw [h3] at h1
  omega
 have hq : Int.tdiv ((B.length : Int) - 1) W + 1 ≤ lenF Lat B (oL s) s.y 0 := by
  have hWr := (validB_iff hv).2.1
  have hw1 : 1 ≤ (insS W Lat B).w := hS.w1.1
  have hww : (insS W Lat B).w = W.toNat := rfl
  rw [hnn] at hall
  have hlt : B.length - 1 < s.y.length := by rw [hi.yl]; omega
  have h1 := hw.div hw1 ((B.length - 1) / (insS W Lat B).w) (B.length - 1) (Nat.mul_div_le _ _) hlt
  have h2 := hj (B.length - 1) (by omega)
  have h3 := (hS.lt1 s.o[B.length - 1]).1
  have h4 : s.y.getD (B.length - 1) 0 = s.t s.o[B.length - 1] := by
   rw [List.getD_eq_getElem?_getD, hi.yt (B.length - 1) (by omega)]
   rfl
  have h5 : Int.tdiv ((B.length : Int) - 1) W = (((B.length - 1) / (insS W Lat B).w : Nat) : Int) := by
   rw [Int.tdiv_eq_ediv_of_nonneg (by omega), hww]
   rw [show (B.length : Int) - 1 = ((B.length - 1 : Nat) : Int) by omega]
   conv => lhs; rw [show W = ((W.toNat : Nat) : Int) by omega]
   rfl
  rw [h5]
  rw [h4] at h1
  omega
 rcases hm.1 with e | e
 ·rw [e]; exact hq
 ·exact hT _ e
end Go.Proofs.YtjacphcbiaacnaaDoor
end

