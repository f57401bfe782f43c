import Derived.Test.YtjacphcbiaacnaaDoorMSFu18
section
set_option linter.unusedVariables false
set_option linter.unusedSimpArgs false
set_option linter.unusedSectionVars false
namespace Go.Proofs.YtjacphcbiaacnaaDoor
open Go.RowKit Go.Proofs.YtjacphcbiaacnaaDoorW.PrintWords Go.Proofs.YtjacphcbiaacnaaDoorW.PrintMore Go.Proofs.YtjacphcbiaacnaaDoorW.PrintLast Go.Proofs.YtjacphcbiaacnaaDoor.PDigraphTells Mem Sc
theorem eqs_any (c0 c1 : Nat) (A0 A1 : Option Addr) (l : List Int) (w : World) (h0 : Kd.C (Kd.int .i64) w A0 l.length l) (g0 : l.length ≤ c0) (h1 : Kd.C (Kd.int .i64) w A1 l.length l) (g1 : l.length ≤ c1) (hl : l.length * 8 ≤ 140737488355328) :
  Calls Tryd.prog 12 #[.slice A0 l.length c0, .slice A1 l.length c1] w fun e w' => e = .returned (.bool true) ∧ Below w.heap.size w w' := by
 refine (slices_Equal_int_int.calls (l.length + 1) A0 c0 l A1 c1 l true w h0 g0 h1 g1 (by rw [eqi_f l l (by omega)]; simp)).mono ?_
 rintro e w' ⟨rfl, hd⟩
 obtain ⟨n, rfl⟩ := hd
 exact ⟨rfl, pw_below_drewN (Below.refl _ _) _⟩
theorem eqt_loop (l : List Int) (hn : l.length ≤ 140737488355328) : ∀ (d i k : Nat), i + d = l.length → d < k → api_Type_53.l0 k l l (l.length : Int) (i : Int) = some true := by
 intro d
 induction d with
 | zero =>
  intro i k hi hk
  obtain ⟨k, rfl⟩ : ∃ m, k = m + 1 := ⟨k - 1, by omega⟩
  simp only [api_Type_53.l0]
  rw [if_neg (by omega)]
 | succ d ih =>
  intro i k hi hk
  obtain ⟨k, rfl⟩ : ∃ m, k = m + 1 := ⟨k - 1, by omega⟩
  simp only [api_Type_53.l0]
  have e1 : wrap64 ((i : Int) + 1) = ((i + 1 : Nat) : Int) := by unfold wrap64; omega
  rw [if_pos (by omega), if_pos (by omega), if_pos (by omega), if_pos (by omega), if_pos trivial, e1, ih (i + 1) k (by omega) (by omega)]
theorem eqt_any (c0 c1 : Nat) (A0 A1 : Option Addr) (l : List Int) (w : World) (h0 : Kd.C (Kd.int .i64) w A0 l.length l) (g0 : l.length ≤ c0) (h1 : Kd.C (Kd.int .i64) w A1 l.length l) (g1 : l.length ≤ c1) (hl : l.length * 8 ≤ 140737488355328) :
  Calls Tryd.prog 53 #[.slice A0 l.length c0, .slice A1 l.length c1] w fun e w' => e = .returned (.bool true) ∧ Below w.heap.size w w' := by
 refine (api_Type_53.calls (l.length + 1) A0 c0 l A1 c1 l true w h0 g0 h1 g1 ?_).mono ?_
 ·unfold api_Type_53.f
  rw [if_pos rfl, show (0 : Int) = ((0 : Nat) : Int) from rfl, eqt_loop l (by omega) l.length 0 _ (by omega) (by omega)]
 rintro e w' ⟨rfl, hd⟩
 obtain ⟨n, rfl⟩ := hd
 exact ⟨rfl, pw_below_drewN (Below.refl _ _) _⟩
theorem eq6_loop (l : List Int) (hn : l.length ≤ 140737488355328) : ∀ (d i k : Nat), i + d = l.length → d < k → slices_Equal_int64_int64.l0 k l l (l.length : Int) (i : Int) = some true := by
 intro d
 induction d with
 | zero =>
  intro i k hi hk
  obtain ⟨k, rfl⟩ : ∃ m, k = m + 1 := ⟨k - 1, by omega⟩
  simp only [slices_Equal_int64_int64.l0]
  rw [if_neg (by omega)]
 | succ d ih =>
  intro i k hi hk
  obtain ⟨k, rfl⟩ : ∃ m, k = m + 1 := ⟨k - 1, by omega⟩
  simp only [slices_Equal_int64_int64.l0]
  have e1 : wrap64 ((i : Int) + 1) = ((i + 1 : Nat) : Int) := by unfold wrap64; omega
  rw [if_pos (by omega), if_pos (by omega), if_pos (by omega), if_pos (by omega), if_pos trivial, e1, ih (i + 1) k (by omega) (by omega)]
theorem eq6_any (c0 c1 : Nat) (A0 A1 : Option Addr) (l : List Int) (w : World) (h0 : Kd.C (Kd.int .i64) w A0 l.length l) (g0 : l.length ≤ c0) (h1 : Kd.C (Kd.int .i64) w A1 l.length l) (g1 : l.length ≤ c1) (hl : l.length * 8 ≤ 140737488355328) :
  Calls Tryd.prog 61 #[.slice A0 l.length c0, .slice A1 l.length c1] w fun e w' => e = .returned (.bool true) ∧ Below w.heap.size w w' := by
 refine (slices_Equal_int64_int64.calls (l.length + 1) A0 c0 l A1 c1 l true w h0 g0 h1 g1 ?_).mono ?_
 ·unfold slices_Equal_int64_int64.f
  rw [if_pos rfl, show (0 : Int) = ((0 : Nat) : Int) from rfl, eq6_loop l (by omega) l.length 0 _ (by omega) (by omega)]
 rintro e w' ⟨rfl, hd⟩
 obtain ⟨n, rfl⟩ := hd
 exact ⟨rfl, pw_below_drewN (Below.refl _ _) _⟩
set_option maxRecDepth 100000 in
set_option maxHeartbeats 8000000 in
theorem eqn_any (x : S48) {A c A' c'} (w : World) (h0 : Kd.C (Kd.int .i64) w A x.f3.length x.f3) (g0 : x.f3.length ≤ c) (h1 : Kd.C (Kd.int .i64) w A' x.f3.length x.f3) (g1 : x.f3.length ≤ c') (hl : x.f3.length * 8 ≤ 140737488355328) :
  Calls Tryd.prog 62 #[.agg #[.int .i64 x.f0, .int .i64 x.f1, .int .i64 x.f2, .slice A x.f3.length c, .int .i64 x.f4, .int .i64 x.f5, .int .i64 x.f6, .bool x.f7], .agg #[.int .i64 x.f0, .int .i64 x.f1, .int .i64 x.f2, .slice A' x.f3.length c', .int .i64 x.f4, .int .i64 x.f5, .int .i64 x.f6, .bool x.f7]] w fun e w' => e = .returned (.bool true) ∧ Below w.heap.size w w' := by
 have hE := Aside0.mk (fun (W1 : World) (e1 : Below w.heap.size w W1) => eqs_any c c' A A' x.f3 W1 (Kd.C_below h0 e1) g0 (Kd.C_below h1 e1) g1 hl)
 clear h0 g0 h1 g1 hl
 go_enter Tryd.func62, Tryd.ntmps62
 go_upto_region 1 with (fail)
 obtain ⟨w2, hw2⟩ : ∃ w2, (w.alloc (.cells #[.int .i64 x.f0, .int .i64 x.f1, .int .i64 x.f2, .slice A x.f3.length c, .int .i64 x.f4, .int .i64 x.f5, .int .i64 x.f6, .bool x.f7] 48 (0, 0))).alloc (.cells #[.int .i64 x.f0, .int .i64 x.f1, .int .i64 x.f2, .slice A' x.f3.length c', .int .i64 x.f4, .int .i64 x.f5, .int .i64 x.f6, .bool x.f7] 48 (0, 0)) = w2 := ⟨_, rfl⟩
 obtain ⟨b0, hb0⟩ : ∃ b0, w.heap.size = b0 := ⟨_, rfl⟩
 obtain ⟨B2, h7, h8⟩ := box_two hw2 hb0
 rw [hw2, hb0]
 clear hw2 hb0
 have k0 : w2.cell? ⟨b0, 0, none⟩ = some (.int .i64 x.f0) := cell_at h7 rfl
 have k1 : w2.cell? ⟨b0, 1, none⟩ = some (.int .i64 x.f1) := cell_at h7 rfl
 have k2 : w2.cell? ⟨b0, 2, none⟩ = some (.int .i64 x.f2) := cell_at h7 rfl
 have k3 : w2.cell? ⟨b0, 3, none⟩ = some (.slice A x.f3.length c) := cell_at h7 rfl
 have k4 : w2.cell? ⟨b0, 4, none⟩ = some (.int .i64 x.f4) := cell_at h7 rfl
 have k5 : w2.cell? ⟨b0, 5, none⟩ = some (.int .i64 x.f5) := cell_at h7 rfl
 have k6 : w2.cell? ⟨b0, 6, none⟩ = some (.int .i64 x.f6) := cell_at h7 rfl
 have k7 : w2.cell? ⟨b0, 7, none⟩ = some (.bool x.f7) := cell_at h7 rfl
 have l0 : w2.cell? ⟨b0 + 1, 0, none⟩ = some (.int .i64 x.f0) := cell_at h8 rfl
 have l1 : w2.cell? ⟨b0 + 1, 1, none⟩ = some (.int .i64 x.f1) := cell_at h8 rfl
 have l2 : w2.cell? ⟨b0 + 1, 2, none⟩ = some (.int .i64 x.f2) := cell_at h8 rfl
 have l3 : w2.cell? ⟨b0 + 1, 3, none⟩ = some (.slice A' x.f3.length c') := cell_at h8 rfl
 have l4 : w2.cell? ⟨b0 + 1, 4, none⟩ = some (.int .i64 x.f4) := cell_at h8 rfl
 have l5 : w2.cell? ⟨b0 + 1, 5, none⟩ = some (.int .i64 x.f5) := cell_at h8 rfl
 have l6 : w2.cell? ⟨b0 + 1, 6, none⟩ = some (.int .i64 x.f6) := cell_at h8 rfl
 have l7 : w2.cell? ⟨b0 + 1, 7, none⟩ = some (.bool x.f7) := cell_at h8 rfl
 replace B2 := Aside0.mk B2
 clear h7 h8
 go_wp2_with fail
 refine (hE.out w2 B2.out).mono ?_
 rintro e w3 ⟨rfl, B3⟩
 have hF := Aside0.mk (bl1 B2.out B3)
 clear B3 k0 k1 k2 k3 k4 k5 k6 k7 l0 l1 l2 l3 l4 l5 l6 l7
 go_wp2
 go_ret
 exact ⟨rfl, hF.out⟩
structure RB (w : World) (x : S31) (A0 : Option Addr) (c0 : Nat) (A1 : Option Addr) (c1 : Nat) (A3 : Option Addr) (c3 : Nat) (A4 : Option Addr) (c4 : Nat) (A5 : Option Addr) (c5 : Nat) : Prop where
 l0 : x.f0.length ≤ c0
 g0 : Kd.C (Kd.int .i64) w A0 x.f0.length x.f0
 l1 : x.f1.length ≤ c1
 g1 : Kd.C k48 w A1 x.f1.length x.f1
 l3 : x.f2.f1.length ≤ c3
 g3 : Kd.C (Kd.int .i64) w A3 x.f2.f1.length x.f2.f1
 l4 : x.f2.f2.length ≤ c4
 g4 : Kd.C (Kd.int .i64) w A4 x.f2.f2.length x.f2.f2
 l5 : x.f2.f3.length ≤ c5
 g5 : Kd.C k98 w A5 x.f2.f3.length x.f2.f3
section
variable {w w1 : World} {x : S31} {A0 : Option Addr} {c0 : Nat} {A1 : Option Addr} {c1 : Nat} {A3 : Option Addr} {c3 : Nat} {A4 : Option Addr} {c4 : Nat} {A5 : Option Addr} {c5 : Nat} {E0 : Option Addr} {d0 : Nat} {E1 : Option Addr} {d1 : Nat} {E3 : Option Addr} {d3 : Nat} {E4 : Option Addr} {d4 : Nat} {E5 : Option Addr} {d5 : Nat}
theorem RB.below (h : RB w x A0 c0 A1 c1 A3 c3 A4 c4 A5 c5) (hb : Below w.heap.size w w1) : RB w1 x A0 c0 A1 c1 A3 c3 A4 c4 A5 c5 :=
 ⟨h.l0, Kd.C_below h.g0 hb, h.l1, Kd.C_below h.g1 hb, h.l3, Kd.C_below h.g3 hb, h.l4, Kd.C_below h.g4 hb, h.l5, Kd.C_below h.g5 hb⟩
set_option maxRecDepth 100000 in
set_option maxHeartbeats 8000000 in
theorem eqb_any (h : RB w x A0 c0 A1 c1 A3 c3 A4 c4 A5 c5) (g : RB w x E0 d0 E1 d1 E3 d3 E4 d4 E5 d5) (hz : szB x) :
  Calls Tryd.prog 54 #[.agg #[.slice A0 x.f0.length c0, .slice A1 x.f1.length c1, .int .i64 x.f2.f0, .slice A3 x.f2.f1.length c3, .slice A4 x.f2.f2.length c4, .slice A5 x.f2.f3.length c5, .int .i64 x.f2.f4], .agg #[.slice E0 x.f0.length d0, .slice E1 x.f1.length d1, .int .i64 x.f2.f0, .slice E3 x.f2.f1.length d3, .slice E4 x.f2.f2.length d4, .slice E5 x.f2.f3.length d5, .int .i64 x.f2.f4]] w fun e w' => e = .returned (.bool true) ∧ Below w.heap.size w w' := by
 have hX := Aside0.mk (And.intro h (And.intro g hz))
 have hs0 := Aside0.mk (fun (W1 : World) (e1 : Below w.heap.size w W1) => eqs_any c0 d0 A0 E0 x.f0 W1 (Kd.C_below h.g0 e1) h.l0 (Kd.C_below g.g0 e1) g.l0 hz.1)
 have hs3 := Aside0.mk (fun (W1 : World) (e1 : Below w.heap.size w W1) => eqs_any c3 d3 A3 E3 x.f2.f1 W1 (Kd.C_below h.g3 e1) h.l3 (Kd.C_below g.g3 e1) g.l3 hz.2.2.2.1)
 have hs4 := Aside0.mk (fun (W1 : World) (e1 : Below w.heap.size w W1) => eq6_any c4 d4 A4 E4 x.f2.f2 W1 (Kd.C_below h.g4 e1) h.l4 (Kd.C_below g.g4 e1) g.l4 hz.2.2.2.2.1)
 clear h g hz
 go_enter Tryd.func54, Tryd.ntmps54
 go_upto_region 1 with (fail)
 obtain ⟨w2, hw2⟩ : ∃ w2, (w.alloc (.cells #[.slice A0 x.f0.length c0, .slice A1 x.f1.length c1, .int .i64 x.f2.f0, .slice A3 x.f2.f1.length c3, .slice A4 x.f2.f2.length c4, .slice A5 x.f2.f3.length c5, .int .i64 x.f2.f4] 31 (0, 0))).alloc (.cells #[.slice E0 x.f0.length d0, .slice E1 x.f1.length d1, .int .i64 x.f2.f0, .slice E3 x.f2.f1.length d3, .slice E4 x.f2.f2.length d4, .slice E5 x.f2.f3.length d5, .int .i64 x.f2.f4] 31 (0, 0)) = w2 := ⟨_, rfl⟩
 obtain ⟨b0, hb0⟩ : ∃ b0, w.heap.size = b0 := ⟨_, rfl⟩
 obtain ⟨B2, h7, h8⟩ := box_two hw2 hb0
 rw [hw2, hb0]
 clear hw2
 have a2 : w2.cell? ⟨b0, 2, none⟩ = some (.int .i64 x.f2.f0) := cell_at h7 rfl
 have e2 : w2.cell? ⟨b0 + 1, 2, none⟩ = some (.int .i64 x.f2.f0) := cell_at h8 rfl
 have a3 : w2.cell? ⟨b0, 3, none⟩ = some (.slice A3 x.f2.f1.length c3) := cell_at h7 rfl
 have e3 : w2.cell? ⟨b0 + 1, 3, none⟩ = some (.slice E3 x.f2.f1.length d3) := cell_at h8 rfl
 have a4 : w2.cell? ⟨b0, 4, none⟩ = some (.slice A4 x.f2.f2.length c4) := cell_at h7 rfl
 have e4 : w2.cell? ⟨b0 + 1, 4, none⟩ = some (.slice E4 x.f2.f2.length d4) := cell_at h8 rfl
 have a5 : w2.cell? ⟨b0, 5, none⟩ = some (.slice A5 x.f2.f3.length c5) := cell_at h7 rfl
 have e5 : w2.cell? ⟨b0 + 1, 5, none⟩ = some (.slice E5 x.f2.f3.length d5) := cell_at h8 rfl
 have a6 : w2.cell? ⟨b0, 6, none⟩ = some (.int .i64 x.f2.f4) := cell_at h7 rfl
 have e6 : w2.cell? ⟨b0 + 1, 6, none⟩ = some (.int .i64 x.f2.f4) := cell_at h8 rfl
 have hH := Aside0.mk (And.intro B2 (And.intro h7 h8))
 have hw0 := Aside0.mk (hb0)
 have a2' : (w2.alloc (.cells #[.int .i64 0, .slice none 0 0, .slice none 0 0, .slice none 0 0, .int .i64 0] 29 (0, 0))).cell? ⟨b0, 2, none⟩ = some (.int .i64 x.f2.f0) := kp_cell ((Kp.refl (fun _ => False) w2).alloc _) a2 (fun h => h)
 have a2'' : ((w2.alloc (.cells #[.int .i64 0, .slice none 0 0, .slice none 0 0, .slice none 0 0, .int .i64 0] 29 (0, 0))).alloc (.cells #[.int .i64 0, .slice none 0 0, .slice none 0 0, .slice none 0 0, .int .i64 0] 29 (0, 0))).cell? ⟨b0, 2, none⟩ = some (.int .i64 x.f2.f0) := kp_cell (((Kp.refl (fun _ => False) w2).alloc _).alloc _) a2 (fun h => h)
 have e2' : (w2.alloc (.cells #[.int .i64 0, .slice none 0 0, .slice none 0 0, .slice none 0 0, .int .i64 0] 29 (0, 0))).cell? ⟨b0 + 1, 2, none⟩ = some (.int .i64 x.f2.f0) := kp_cell ((Kp.refl (fun _ => False) w2).alloc _) e2 (fun h => h)
 have e2'' : ((w2.alloc (.cells #[.int .i64 0, .slice none 0 0, .slice none 0 0, .slice none 0 0, .int .i64 0] 29 (0, 0))).alloc (.cells #[.int .i64 0, .slice none 0 0, .slice none 0 0, .slice none 0 0, .int .i64 0] 29 (0, 0))).cell? ⟨b0 + 1, 2, none⟩ = some (.int .i64 x.f2.f0) := kp_cell (((Kp.refl (fun _ => False) w2).alloc _).alloc _) e2 (fun h => h)
 have a3' : (w2.alloc (.cells #[.int .i64 0, .slice none 0 0, .slice none 0 0, .slice none 0 0, .int .i64 0] 29 (0, 0))).cell? ⟨b0, 3, none⟩ = some (.slice A3 x.f2.f1.length c3) := kp_cell ((Kp.refl (fun _ => False) w2).alloc _) a3 (fun h => h)
 have a3'' : ((w2.alloc (.cells #[.int .i64 0, .slice none 0 0, .slice none 0 0, .slice none 0 0, .int .i64 0] 29 (0, 0))).alloc (.cells #[.int .i64 0, .slice none 0 0, .slice none 0 0, .slice none 0 0, .int .i64 0] 29 (0, 0))).cell? ⟨b0, 3, none⟩ = some (.slice A3 x.f2.f1.length c3) := kp_cell (((Kp.refl (fun _ => False) w2).alloc _).alloc _) a3 (fun h => h)
 have e3' : (w2.alloc (.cells #[.int .i64 0, .slice none 0 0, .slice none 0 0, .slice none 0 0, .int .i64 0] 29 (0, 0))).cell? ⟨b0 + 1, 3, none⟩ = some (.slice E3 x.f2.f1.length d3) := kp_cell ((Kp.refl (fun _ => False) w2).alloc _) e3 (fun h => h)
 have e3'' : ((w2.alloc (.cells #[.int .i64 0, .slice none 0 0, .slice none 0 0, .slice none 0 0, .int .i64 0] 29 (0, 0))).alloc (.cells #[.int .i64 0, .slice none 0 0, .slice none 0 0, .slice none 0 0, .int .i64 0] 29 (0, 0))).cell? ⟨b0 + 1, 3, none⟩ = some (.slice E3 x.f2.f1.length d3) := kp_cell (((Kp.refl (fun _ => False) w2).alloc _).alloc _) e3 (fun h => h)
 have a4' : (w2.alloc (.cells #[.int .i64 0, .slice none 0 0, .slice none 0 0, .slice none 0 0, .int .i64 0] 29 (0, 0))).cell? ⟨b0, 4, none⟩ = some (.slice A4 x.f2.f2.length c4) := kp_cell ((Kp.refl (fun _ => False) w2).alloc _) a4 (fun h => h)
 have a4'' : ((w2.alloc (.cells #[.int .i64 0, .slice none 0 0, .slice none 0 0, .slice none 0 0, .int .i64 0] 29 (0, 0))).alloc (.cells #[.int .i64 0, .slice none 0 0, .slice none 0 0, .slice none 0 0, .int .i64 0] 29 (0, 0))).cell? ⟨b0, 4, none⟩ = some (.slice A4 x.f2.f2.length c4) := kp_cell (((Kp.refl (fun _ => False) w2).alloc _).alloc _) a4 (fun h => h)
 have e4' : (w2.alloc (.cells #[.int .i64 0, .slice none 0 0, .slice none 0 0, .slice none 0 0, .int .i64 0] 29 (0, 0))).cell? ⟨b0 + 1, 4, none⟩ = some (.slice E4 x.f2.f2.length d4) := kp_cell ((Kp.refl (fun _ => False) w2).alloc _) e4 (fun h => h)
 have e4'' : ((w2.alloc (.cells #[.int .i64 0, .slice none 0 0, .slice none 0 0, .slice none 0 0, .int .i64 0] 29 (0, 0))).alloc (.cells #[.int .i64 0, .slice none 0 0, .slice none 0 0, .slice none 0 0, .int .i64 0] 29 (0, 0))).cell? ⟨b0 + 1, 4, none⟩ = some (.slice E4 x.f2.f2.length d4) := kp_cell (((Kp.refl (fun _ => False) w2).alloc _).alloc _) e4 (fun h => h)
 have a5' : (w2.alloc (.cells #[.int .i64 0, .slice none 0 0, .slice none 0 0, .slice none 0 0, .int .i64 0] 29 (0, 0))).cell? ⟨b0, 5, none⟩ = some (.slice A5 x.f2.f3.length c5) := kp_cell ((Kp.refl (fun _ => False) w2).alloc _) a5 (fun h => h)
 have a5'' : ((w2.alloc (.cells #[.int .i64 0, .slice none 0 0, .slice none 0 0, .slice none 0 0, .int .i64 0] 29 (0, 0))).alloc (.cells #[.int .i64 0, .slice none 0 0, .slice none 0 0, .slice none 0 0, .int .i64 0] 29 (0, 0))).cell? ⟨b0, 5, none⟩ = some (.slice A5 x.f2.f3.length c5) := kp_cell (((Kp.refl (fun _ => False) w2).alloc _).alloc _) a5 (fun h => h)
 have e5' : (w2.alloc (.cells #[.int .i64 0, .slice none 0 0, .slice none 0 0, .slice none 0 0, .int .i64 0] 29 (0, 0))).cell? ⟨b0 + 1, 5, none⟩ = some (.slice E5 x.f2.f3.length d5) := kp_cell ((Kp.refl (fun _ => False) w2).alloc _) e5 (fun h => h)
 have e5'' : ((w2.alloc (.cells #[.int .i64 0, .slice none 0 0, .slice none 0 0, .slice none 0 0, .int .i64 0] 29 (0, 0))).alloc (.cells #[.int .i64 0, .slice none 0 0, .slice none 0 0, .slice none 0 0, .int .i64 0] 29 (0, 0))).cell? ⟨b0 + 1, 5, none⟩ = some (.slice E5 x.f2.f3.length d5) := kp_cell (((Kp.refl (fun _ => False) w2).alloc _).alloc _) e5 (fun h => h)
 have a6' : (w2.alloc (.cells #[.int .i64 0, .slice none 0 0, .slice none 0 0, .slice none 0 0, .int .i64 0] 29 (0, 0))).cell? ⟨b0, 6, none⟩ = some (.int .i64 x.f2.f4) := kp_cell ((Kp.refl (fun _ => False) w2).alloc _) a6 (fun h => h)
 have a6'' : ((w2.alloc (.cells #[.int .i64 0, .slice none 0 0, .slice none 0 0, .slice none 0 0, .int .i64 0] 29 (0, 0))).alloc (.cells #[.int .i64 0, .slice none 0 0, .slice none 0 0, .slice none 0 0, .int .i64 0] 29 (0, 0))).cell? ⟨b0, 6, none⟩ = some (.int .i64 x.f2.f4) := kp_cell (((Kp.refl (fun _ => False) w2).alloc _).alloc _) a6 (fun h => h)
 have e6' : (w2.alloc (.cells #[.int .i64 0, .slice none 0 0, .slice none 0 0, .slice none 0 0, .int .i64 0] 29 (0, 0))).cell? ⟨b0 + 1, 6, none⟩ = some (.int .i64 x.f2.f4) := kp_cell ((Kp.refl (fun _ => False) w2).alloc _) e6 (fun h => h)
 have e6'' : ((w2.alloc (.cells #[.int .i64 0, .slice none 0 0, .slice none 0 0, .slice none 0 0, .int .i64 0] 29 (0, 0))).alloc (.cells #[.int .i64 0, .slice none 0 0, .slice none 0 0, .slice none 0 0, .int .i64 0] 29 (0, 0))).cell? ⟨b0 + 1, 6, none⟩ = some (.int .i64 x.f2.f4) := kp_cell (((Kp.refl (fun _ => False) w2).alloc _).alloc _) e6 (fun h => h)
 have g2 : ((w2.alloc (.cells #[.int .i64 0, .slice none 0 0, .slice none 0 0, .slice none 0 0, .int .i64 0] 29 (0, 0))).alloc (.cells #[.int .i64 x.f2.f0, .slice A3 x.f2.f1.length c3, .slice A4 x.f2.f2.length c4, .slice A5 x.f2.f3.length c5, .int .i64 x.f2.f4] 29 (0, 0))).cell? ⟨b0 + 1, 2, none⟩ = some (.int .i64 x.f2.f0) := kp_cell (((Kp.refl (fun _ => False) w2).alloc _).alloc _) e2 (fun h => h)
 have g2' : ((w2.alloc (.cells #[.int .i64 x.f2.f0, .slice A3 x.f2.f1.length c3, .slice A4 x.f2.f2.length c4, .slice A5 x.f2.f3.length c5, .int .i64 x.f2.f4] 29 (0, 0))).alloc (.cells #[.int .i64 0, .slice none 0 0, .slice none 0 0, .slice none 0 0, .int .i64 0] 29 (0, 0))).cell? ⟨b0 + 1, 2, none⟩ = some (.int .i64 x.f2.f0) := kp_cell (((Kp.refl (fun _ => False) w2).alloc _).alloc _) e2 (fun h => h)
 have g3 : ((w2.alloc (.cells #[.int .i64 0, .slice none 0 0, .slice none 0 0, .slice none 0 0, .int .i64 0] 29 (0, 0))).alloc (.cells #[.int .i64 x.f2.f0, .slice A3 x.f2.f1.length c3, .slice A4 x.f2.f2.length c4, .slice A5 x.f2.f3.length c5, .int .i64 x.f2.f4] 29 (0, 0))).cell? ⟨b0 + 1, 3, none⟩ = some (.slice E3 x.f2.f1.length d3) := kp_cell (((Kp.refl (fun _ => False) w2).alloc _).alloc _) e3 (fun h => h)
 have g3' : ((w2.alloc (.cells #[.int .i64 x.f2.f0, .slice A3 x.f2.f1.length c3, .slice A4 x.f2.f2.length c4, .slice A5 x.f2.f3.length c5, .int .i64 x.f2.f4] 29 (0, 0))).alloc (.cells #[.int .i64 0, .slice none 0 0, .slice none 0 0, .slice none 0 0, .int .i64 0] 29 (0, 0))).cell? ⟨b0 + 1, 3, none⟩ = some (.slice E3 x.f2.f1.length d3) := kp_cell (((Kp.refl (fun _ => False) w2).alloc _).alloc _) e3 (fun h => h)
 have g4 : ((w2.alloc (.cells #[.int .i64 0, .slice none 0 0, .slice none 0 0, .slice none 0 0, .int .i64 0] 29 (0, 0))).alloc (.cells #[.int .i64 x.f2.f0, .slice A3 x.f2.f1.length c3, .slice A4 x.f2.f2.length c4, .slice A5 x.f2.f3.length c5, .int .i64 x.f2.f4] 29 (0, 0))).cell? ⟨b0 + 1, 4, none⟩ = some (.slice E4 x.f2.f2.length d4) := kp_cell (((Kp.refl (fun _ => False) w2).alloc _).alloc _) e4 (fun h => h)
 have g4' : ((w2.alloc (.cells #[.int .i64 x.f2.f0, .slice A3 x.f2.f1.length c3, .slice A4 x.f2.f2.length c4, .slice A5 x.f2.f3.length c5, .int .i64 x.f2.f4] 29 (0, 0))).alloc (.cells #[.int .i64 0, .slice none 0 0, .slice none 0 0, .slice none 0 0, .int .i64 0] 29 (0, 0))).cell? ⟨b0 + 1, 4, none⟩ = some (.slice E4 x.f2.f2.length d4) := kp_cell (((Kp.refl (fun _ => False) w2).alloc _).alloc _) e4 (fun h => h)
 have g5 : ((w2.alloc (.cells #[.int .i64 0, .slice none 0 0, .slice none 0 0, .slice none 0 0, .int .i64 0] 29 (0, 0))).alloc (.cells #[.int .i64 x.f2.f0, .slice A3 x.f2.f1.length c3, .slice A4 x.f2.f2.length c4, .slice A5 x.f2.f3.length c5, .int .i64 x.f2.f4] 29 (0, 0))).cell? ⟨b0 + 1, 5, none⟩ = some (.slice E5 x.f2.f3.length d5) := kp_cell (((Kp.refl (fun _ => False) w2).alloc _).alloc _) e5 (fun h => h)
 have g5' : ((w2.alloc (.cells #[.int .i64 x.f2.f0, .slice A3 x.f2.f1.length c3, .slice A4 x.f2.f2.length c4, .slice A5 x.f2.f3.length c5, .int .i64 x.f2.f4] 29 (0, 0))).alloc (.cells #[.int .i64 0, .slice none 0 0, .slice none 0 0, .slice none 0 0, .int .i64 0] 29 (0, 0))).cell? ⟨b0 + 1, 5, none⟩ = some (.slice E5 x.f2.f3.length d5) := kp_cell (((Kp.refl (fun _ => False) w2).alloc _).alloc _) e5 (fun h => h)
 have g6 : ((w2.alloc (.cells #[.int .i64 0, .slice none 0 0, .slice none 0 0, .slice none 0 0, .int .i64 0] 29 (0, 0))).alloc (.cells #[.int .i64 x.f2.f0, .slice A3 x.f2.f1.length c3, .slice A4 x.f2.f2.length c4, .slice A5 x.f2.f3.length c5, .int .i64 x.f2.f4] 29 (0, 0))).cell? ⟨b0 + 1, 6, none⟩ = some (.int .i64 x.f2.f4) := kp_cell (((Kp.refl (fun _ => False) w2).alloc _).alloc _) e6 (fun h => h)
 have g6' : ((w2.alloc (.cells #[.int .i64 x.f2.f0, .slice A3 x.f2.f1.length c3, .slice A4 x.f2.f2.length c4, .slice A5 x.f2.f3.length c5, .int .i64 x.f2.f4] 29 (0, 0))).alloc (.cells #[.int .i64 0, .slice none 0 0, .slice none 0 0, .slice none 0 0, .int .i64 0] 29 (0, 0))).cell? ⟨b0 + 1, 6, none⟩ = some (.int .i64 x.f2.f4) := kp_cell (((Kp.refl (fun _ => False) w2).alloc _).alloc _) e6 (fun h => h)
 have n0 := blk_lt' h8
 have n1 : ¬ (w2.heap.size = b0 + 1) := by omega
 have n2 : ¬ (w2.heap.size + 1 = b0 + 1) := by omega
 have n3 : ¬ (b0 + 1 = w2.heap.size) := by omega
 have n4 : ¬ (b0 + 1 = w2.heap.size + 1) := by omega
 clear B2 h7 h8 hb0
 apply cut9
 ·intro key
  go_region
  ·obtain ⟨W4, hw4⟩ : ∃ W4, (w2.alloc (.cells #[.int .i64 x.f2.f0, .slice A3 x.f2.f1.length c3, .slice A4 x.f2.f2.length c4, .slice A5 x.f2.f3.length c5, .int .i64 x.f2.f4] 29 (0, 0))).alloc (.cells #[.int .i64 x.f2.f0, .slice E3 x.f2.f1.length d3, .slice E4 x.f2.f2.length d4, .slice E5 x.f2.f3.length d5, .int .i64 x.f2.f4] 29 (0, 0)) = W4 := ⟨_, rfl⟩
   obtain ⟨Bq, h5, h6⟩ := box_two hw4 rfl
   rw [hw4]
   have hF : Aside0 (Below w.heap.size w W4.drew ∧ W4.drew.heap[w2.heap.size]? = some (.cells #[.int .i64 x.f2.f0, .slice A3 x.f2.f1.length c3, .slice A4 x.f2.f2.length c4, .slice A5 x.f2.f3.length c5, .int .i64 x.f2.f4] 29 (0, 0)) ∧ W4.drew.heap[w2.heap.size + 1]? = some (.cells #[.int .i64 x.f2.f0, .slice E3 x.f2.f1.length d3, .slice E4 x.f2.f2.length d4, .slice E5 x.f2.f3.length d5, .int .i64 x.f2.f4] 29 (0, 0)) ∧ W4.drew.heap[b0]? = some (.cells #[.slice A0 x.f0.length c0, .slice A1 x.f1.length c1, .int .i64 x.f2.f0, .slice A3 x.f2.f1.length c3, .slice A4 x.f2.f2.length c4, .slice A5 x.f2.f3.length c5, .int .i64 x.f2.f4] 31 (0, 0)) ∧ W4.drew.heap[b0 + 1]? = some (.cells #[.slice E0 x.f0.length d0, .slice E1 x.f1.length d1, .int .i64 x.f2.f0, .slice E3 x.f2.f1.length d3, .slice E4 x.f2.f2.length d4, .slice E5 x.f2.f3.length d5, .int .i64 x.f2.f4] 31 (0, 0))) := ⟨⟨below_drew (bl1 hH.out.1 Bq), h5, h6, (Bq.block _ (blk_lt' hH.out.2.1)).trans hH.out.2.1, (Bq.block _ (blk_lt' hH.out.2.2)).trans hH.out.2.2⟩⟩
   clear hw4 Bq h5 h6
   obtain ⟨W5, hw5⟩ : ∃ W5, W4.drew = W5 := ⟨_, rfl⟩
   rw [hw5] at hF
   rw [hw5]
   clear hw5 W4
   generalize w2.heap.size + 1 = q at hF ⊢
   generalize w2.heap.size = p at hF ⊢
   revert hF
   revert W5
   revert q
   revert p
   exact key.out
  ·obtain ⟨W4, hw4⟩ : ∃ W4, (w2.alloc (.cells #[.int .i64 x.f2.f0, .slice E3 x.f2.f1.length d3, .slice E4 x.f2.f2.length d4, .slice E5 x.f2.f3.length d5, .int .i64 x.f2.f4] 29 (0, 0))).alloc (.cells #[.int .i64 x.f2.f0, .slice A3 x.f2.f1.length c3, .slice A4 x.f2.f2.length c4, .slice A5 x.f2.f3.length c5, .int .i64 x.f2.f4] 29 (0, 0)) = W4 := ⟨_, rfl⟩
   obtain ⟨Bq, h5, h6⟩ := box_two hw4 rfl
   rw [hw4]
   have hF : Aside0 (Below w.heap.size w W4.drew ∧ W4.drew.heap[w2.heap.size + 1]? = some (.cells #[.int .i64 x.f2.f0, .slice A3 x.f2.f1.length c3, .slice A4 x.f2.f2.length c4, .slice A5 x.f2.f3.length c5, .int .i64 x.f2.f4] 29 (0, 0)) ∧ W4.drew.heap[w2.heap.size]? = some (.cells #[.int .i64 x.f2.f0, .slice E3 x.f2.f1.length d3, .slice E4 x.f2.f2.length d4, .slice E5 x.f2.f3.length d5, .int .i64 x.f2.f4] 29 (0, 0)) ∧ W4.drew.heap[b0]? = some (.cells #[.slice A0 x.f0.length c0, .slice A1 x.f1.length c1, .int .i64 x.f2.f0, .slice A3 x.f2.f1.length c3, .slice A4 x.f2.f2.length c4, .slice A5 x.f2.f3.length c5, .int .i64 x.f2.f4] 31 (0, 0)) ∧ W4.drew.heap[b0 + 1]? = some (.cells #[.slice E0 x.f0.length d0, .slice E1 x.f1.length d1, .int .i64 x.f2.f0, .slice E3 x.f2.f1.length d3, .slice E4 x.f2.f2.length d4, .slice E5 x.f2.f3.length d5, .int .i64 x.f2.f4] 31 (0, 0))) := ⟨⟨below_drew (bl1 hH.out.1 Bq), h6, h5, (Bq.block _ (blk_lt' hH.out.2.1)).trans hH.out.2.1, (Bq.block _ (blk_lt' hH.out.2.2)).trans hH.out.2.2⟩⟩
   clear hw4 Bq h5 h6
   obtain ⟨W5, hw5⟩ : ∃ W5, W4.drew = W5 := ⟨_, rfl⟩
   rw [hw5] at hF
   rw [hw5]
   clear hw5 W4
   generalize w2.heap.size + 1 = p at hF ⊢
   generalize w2.heap.size = q at hF ⊢
   revert hF
   revert W5
   revert q
   revert p
   exact key.out
 intro p q W5 hF
 clear a2 a3 a4 a5 a6 e2 e3 e4 e5 e6 n0 n1 n2 n3 n4
 clear a2' a3' a4' a5' a6' e2' e3' e4' e5' e6' a2'' a3'' a4'' a5'' a6'' e2'' e3'' e4'' e5'' e6'' g2 g3 g4 g5 g6 g2' g3' g4' g5' g6'
 have hCl : Aside0 (∀ W1 : World, Below W5.heap.size W5 W1 → W1.cell? ⟨b0, 0, none⟩ = some (.slice A0 x.f0.length c0) ∧ W1.cell? ⟨b0, 1, none⟩ = some (.slice A1 x.f1.length c1) ∧ W1.cell? ⟨b0 + 1, 0, none⟩ = some (.slice E0 x.f0.length d0) ∧ W1.cell? ⟨b0 + 1, 1, none⟩ = some (.slice E1 x.f1.length d1) ∧ W1.cell? ⟨p, 0, none⟩ = some (.int .i64 x.f2.f0) ∧ W1.cell? ⟨p, 1, none⟩ = some (.slice A3 x.f2.f1.length c3) ∧ W1.cell? ⟨p, 2, none⟩ = some (.slice A4 x.f2.f2.length c4) ∧ W1.cell? ⟨p, 3, none⟩ = some (.slice A5 x.f2.f3.length c5) ∧ W1.cell? ⟨p, 4, none⟩ = some (.int .i64 x.f2.f4) ∧ W1.cell? ⟨q, 0, none⟩ = some (.int .i64 x.f2.f0) ∧ W1.cell? ⟨q, 1, none⟩ = some (.slice E3 x.f2.f1.length d3) ∧ W1.cell? ⟨q, 2, none⟩ = some (.slice E4 x.f2.f2.length d4) ∧ W1.cell? ⟨q, 3, none⟩ = some (.slice E5 x.f2.f3.length d5) ∧ W1.cell? ⟨q, 4, none⟩ = some (.int .i64 x.f2.f4)) := ⟨fun W1 e1 => by
  have z1 := (e1.block _ (blk_lt' hF.out.2.1)).trans hF.out.2.1
  have z2 := (e1.block _ (blk_lt' hF.out.2.2.1)).trans hF.out.2.2.1
  have z3 := (e1.block _ (blk_lt' hF.out.2.2.2.1)).trans hF.out.2.2.2.1
  have z4 := (e1.block _ (blk_lt' hF.out.2.2.2.2)).trans hF.out.2.2.2.2
  exact ⟨cell_at z3 rfl, cell_at z3 rfl, cell_at z4 rfl, cell_at z4 rfl, cell_at z1 rfl, cell_at z1 rfl, cell_at z1 rfl, cell_at z1 rfl, cell_at z1 rfl, cell_at z2 rfl, cell_at z2 rfl, cell_at z2 rfl, cell_at z2 rfl, cell_at z2 rfl⟩⟩
 obtain ⟨k0, k1, l0, l1, m0, m1, m2, m3, m4, r0, r1, r2, r3, r4⟩ := hCl.out W5 (Below.refl _ _)
 go_wp2_with fail
 refine (hs0.out W5 hF.out.1).mono ?_
 rintro e w6 ⟨rfl, b6⟩
 clear k0 k1 l0 l1 m0 m1 m2 m3 m4 r0 r1 r2 r3 r4
 obtain ⟨k0, k1, l0, l1, m0, m1, m2, m3, m4, r0, r1, r2, r3, r4⟩ := hCl.out w6 b6
 have B6 := Aside0.mk (And.intro b6 (hF.out.1.trans (b6.mono hF.out.1.size)))
 clear b6
 go_wp2_with fail
 refine (hs3.out w6 B6.out.2).mono ?_
 rintro e w7 ⟨rfl, b7⟩
 clear k0 k1 l0 l1 m0 m1 m2 m3 m4 r0 r1 r2 r3 r4
 have b7' := bl1 B6.out.1 b7
 obtain ⟨k0, k1, l0, l1, m0, m1, m2, m3, m4, r0, r1, r2, r3, r4⟩ := hCl.out w7 b7'
 have B7 := Aside0.mk (And.intro b7' (hF.out.1.trans (b7'.mono hF.out.1.size)))
 clear b7 b7' B6
 go_wp2_with fail
 refine (hs4.out w7 B7.out.2).mono ?_
 rintro e w8 ⟨rfl, b8⟩
 clear k0 k1 l0 l1 m0 m1 m2 m3 m4 r0 r1 r2 r3 r4
 have b8' := bl1 B7.out.1 b8
 obtain ⟨k0, k1, l0, l1, m0, m1, m2, m3, m4, r0, r1, r2, r3, r4⟩ := hCl.out w8 b8'
 have B8 : Aside0 (Below W5.heap.size W5 w8) := ⟨b8'⟩
 clear b8 b8' B7
 have hn1 : x.f1.length ≤ 140737488355328 := by have := hX.out.2.2.2.1; omega
 have hn3 : x.f2.f3.length ≤ 140737488355328 := by have := hX.out.2.2.2.2.2.2.2.1; omega
 go_wp2_with fail
 clear k0 k1 l0 l1 m0 m1 m2 m3 m4 r0 r1 r2 r3 r4
 go_loopg [71] x.f1.length (fun z v wi => ∃ i : Nat, i + z = x.f1.length ∧ v = .int .i64 (i : Int) ∧ Aside0 (Below W5.heap.size W5 wi))
 case atStart => exact ⟨0, by omega, rfl, B8⟩
 case round =>
  obtain ⟨i, hi, rfl, hJ⟩ := hrel
  clear B8
  by_cases hlt : i < x.f1.length
  ·have hlti : (i : Int) < x.f1.length := by omega
   have hi0 : (0 : Int) ≤ (i : Int) := by omega
   obtain ⟨gk1, rfl⟩ : ∃ z, gk = z + 1 := ⟨gk - 1, by omega⟩
   have hi1 : i + 1 + gk1 = x.f1.length := by omega
   have hgk1 : gk1 < gk1 + 1 := by omega
   have hBw := hF.out.1.trans (hJ.out.mono hF.out.1.size)
   obtain ⟨ad, Aa, ca, eA, s0, s1, s2, s3, s4, s5, s6, s7, la, Ca⟩ := at_T48 (Kd.C_below hX.out.1.g1 hBw) (i : Int) hi0 hlti
   subst eA
   obtain ⟨af, Ab, cb, eA, t0, t1, t2, t3, t4, t5, t6, t7, lb, Cb⟩ := at_T48 (Kd.C_below hX.out.2.1.g1 hBw) (i : Int) hi0 hlti
   subst eA
   rw [Int.toNat_natCast] at s0 s1 s2 s3 s4 s5 s6 s7 t0 t1 t2 t3 t4 t5 t6 t7
   have hzi : (rd_T48 x.f1 (i : Int)).f3.length * 8 ≤ 140737488355328 := by
    have e9 : rd_T48 x.f1 (i : Int) = x.f1[i] := by simp [rd_T48, List.getD_eq_getElem?_getD, hlt]
    rw [e9]
    exact hX.out.2.2.2.2.1 _ (List.getElem_mem hlt)
   obtain ⟨xi, hxi⟩ : ∃ xi, rd_T48 x.f1 (i : Int) = xi := ⟨_, rfl⟩
   rw [hxi] at s0 s1 s2 s3 s4 s5 s6 s7 t0 t1 t2 t3 t4 t5 t6 t7 la lb Ca Cb hzi
   have hC := Aside0.mk (fun (W1 : World) (e1 : Below wr.heap.size wr W1) => eqn_any xi W1 (Kd.C_below Ca e1) la (Kd.C_below Cb e1) lb hzi)
   obtain ⟨k0, k1, l0, l1, m0, m1, m2, m3, m4, r0, r1, r2, r3, r4⟩ := hCl.out wr hJ.out
   clear la lb Ca Cb hzi hxi hBw k0 l0 m0 m1 m2 m3 m4 r0 r1 r2 r3 r4
   go_upto_region 7 with (fail)
   refine Held.begin_ (S := fun W1 => W1.cell? ⟨b0, 1, none⟩ = some (.slice (some ad) x.f1.length c1) ∧ W1.cell? ⟨b0 + 1, 1, none⟩ = some (.slice (some af) x.f1.length d1) ∧ W1.cell? (ad.add (i * 8)) = some (.int .i64 xi.f0) ∧ W1.cell? ⟨(ad.add (i * 8)).block, (ad.add (i * 8)).off + 1, none⟩ = some (.int .i64 xi.f1) ∧ W1.cell? ⟨(ad.add (i * 8)).block, (ad.add (i * 8)).off + 2, none⟩ = some (.int .i64 xi.f2) ∧ W1.cell? ⟨(ad.add (i * 8)).block, (ad.add (i * 8)).off + 3, none⟩ = some (.slice Aa xi.f3.length ca) ∧ W1.cell? ⟨(ad.add (i * 8)).block, (ad.add (i * 8)).off + 4, none⟩ = some (.int .i64 xi.f4) ∧ W1.cell? ⟨(ad.add (i * 8)).block, (ad.add (i * 8)).off + 5, none⟩ = some (.int .i64 xi.f5) ∧ W1.cell? ⟨(ad.add (i * 8)).block, (ad.add (i * 8)).off + 6, none⟩ = some (.int .i64 xi.f6) ∧ W1.cell? ⟨(ad.add (i * 8)).block, (ad.add (i * 8)).off + 7, none⟩ = some (.bool xi.f7) ∧ W1.cell? (af.add (i * 8)) = some (.int .i64 xi.f0) ∧ W1.cell? ⟨(af.add (i * 8)).block, (af.add (i * 8)).off + 1, none⟩ = some (.int .i64 xi.f1) ∧ W1.cell? ⟨(af.add (i * 8)).block, (af.add (i * 8)).off + 2, none⟩ = some (.int .i64 xi.f2) ∧ W1.cell? ⟨(af.add (i * 8)).block, (af.add (i * 8)).off + 3, none⟩ = some (.slice Ab xi.f3.length cb) ∧ W1.cell? ⟨(af.add (i * 8)).block, (af.add (i * 8)).off + 4, none⟩ = some (.int .i64 xi.f4) ∧ W1.cell? ⟨(af.add (i * 8)).block, (af.add (i * 8)).off + 5, none⟩ = some (.int .i64 xi.f5) ∧ W1.cell? ⟨(af.add (i * 8)).block, (af.add (i * 8)).off + 6, none⟩ = some (.int .i64 xi.f6) ∧ W1.cell? ⟨(af.add (i * 8)).block, (af.add (i * 8)).off + 7, none⟩ = some (.bool xi.f7)) 11 (by kernel_rfl) (by kernel_rfl) ?_ (fun hHeld => ?_)
   ·exact ⟨k1, l1, s0, s1, s2, s3, s4, s5, s6, s7, t0, t1, t2, t3, t4, t5, t6, t7⟩
   simp only [List.length_cons, List.length_nil, Nat.reduceAdd, List.replicate, Array.replicate]
   refine Held.take_ (v := ?vv3269400) 0 rfl rfl (by kernel_rfl) (by kernel_rfl) (fun _ _ _ h => h) (by assumption) (Or.inl ⟨by rfl, ?hy3269400⟩) ?_
   case hy3269400 => intro w hSw; (try dsimp only at hSw); (go_simp <;> with_reducible rfl)
   try simp only [Act.put, List.setIfInBounds_toArray, List.set_cons_zero, List.set_cons_succ]
   refine Held.take_ (v := ?vv3269401) 1 rfl rfl (by kernel_rfl) (by kernel_rfl) (fun _ _ _ h => h) (by assumption) (Or.inl ⟨by rfl, ?hy3269401⟩) ?_
   case hy3269401 => intro w hSw; (try dsimp only at hSw); (go_simp <;> with_reducible rfl)
   try simp only [Act.put, List.setIfInBounds_toArray, List.set_cons_zero, List.set_cons_succ]
   refine Held.take_ (v := ?vv3269402) 2 rfl rfl (by kernel_rfl) (by kernel_rfl) (fun _ _ _ h => h) (by assumption) (Or.inl ⟨by rfl, ?hy3269402⟩) ?_
   case hy3269402 => intro w hSw; (try dsimp only at hSw); (go_simp <;> with_reducible rfl)
   try simp only [Act.put, List.setIfInBounds_toArray, List.set_cons_zero, List.set_cons_succ]
   refine Held.take_ (v := ?vv3269403) 3 rfl rfl (by kernel_rfl) (by kernel_rfl) (fun _ _ _ h => h) (by assumption) (Or.inl ⟨by rfl, ?hy3269403⟩) ?_
   case hy3269403 => intro w hSw; (try dsimp only at hSw); (go_simp <;> with_reducible rfl)
   try simp only [Act.put, List.setIfInBounds_toArray, List.set_cons_zero, List.set_cons_succ]
   refine Held.take_ (v := ?vv3269404) 4 rfl rfl (by kernel_rfl) (by kernel_rfl) (fun _ _ _ h => h) (by assumption) (Or.inl ⟨by rfl, ?hy3269404⟩) ?_
   case hy3269404 => intro w hSw; (try dsimp only at hSw); (go_simp <;> with_reducible rfl)
   try simp only [Act.put, List.setIfInBounds_toArray, List.set_cons_zero, List.set_cons_succ]
   refine Held.take_ (v := ?vv3269405) 5 rfl rfl (by kernel_rfl) (by kernel_rfl) (fun _ _ _ h => h) (by assumption) (Or.inl ⟨by rfl, ?hy3269405⟩) ?_
   case hy3269405 => intro w hSw; (try dsimp only at hSw); (go_simp <;> with_reducible rfl)
   try simp only [Act.put, List.setIfInBounds_toArray, List.set_cons_zero, List.set_cons_succ]
   refine Held.take_ (v := ?vv3269406) 6 rfl rfl (by kernel_rfl) (by kernel_rfl) (fun _ _ _ h => h) (by assumption) (Or.inl ⟨by rfl, ?hy3269406⟩) ?_
   case hy3269406 => intro w hSw; (try dsimp only at hSw); (go_simp <;> with_reducible rfl)
   try simp only [Act.put, List.setIfInBounds_toArray, List.set_cons_zero, List.set_cons_succ]
   refine Held.take_ (v := ?vv3269407) 7 rfl rfl (by kernel_rfl) (by kernel_rfl) (fun _ _ _ h => h) (by assumption) (Or.inl ⟨by rfl, ?hy3269407⟩) ?_
   case hy3269407 => intro w hSw; (try dsimp only at hSw); (go_simp <;> with_reducible rfl)
   try simp only [Act.put, List.setIfInBounds_toArray, List.set_cons_zero, List.set_cons_succ]
   refine Held.take_ (v := ?vv3269408) 8 rfl rfl (by kernel_rfl) (by kernel_rfl) (fun _ _ _ h => h) (by assumption) (Or.inl ⟨by rfl, ?hy3269408⟩) ?_
   case hy3269408 => intro w hSw; (try dsimp only at hSw); (go_simp <;> with_reducible rfl)
   try simp only [Act.put, List.setIfInBounds_toArray, List.set_cons_zero, List.set_cons_succ]
   refine Held.take_ (v := ?vv3269409) 9 rfl rfl (by kernel_rfl) (by kernel_rfl) (fun _ _ _ h => h) (by assumption) (Or.inl ⟨by rfl, ?hy3269409⟩) ?_
   case hy3269409 => intro w hSw; (try dsimp only at hSw); (go_simp <;> with_reducible rfl)
   try simp only [Act.put, List.setIfInBounds_toArray, List.set_cons_zero, List.set_cons_succ]
   refine Held.step_ 10 rfl rfl (by kernel_rfl) (fun K hK => ?_)
   go_simp
   go_at_call 62
   with_reducible refine (hC.out _ (below_drew (Below.refl _ _))).mono ?_
   rintro e' w9 ⟨rfl, Bx0⟩
   have Bx : Below wr.heap.size wr w9 := (below_drew (Below.refl _ wr)).trans Bx0
   clear Bx0
   have f1 : (fun W1 => W1.cell? ⟨b0, 1, none⟩ = some (.slice (some ad) x.f1.length c1) ∧ W1.cell? ⟨b0 + 1, 1, none⟩ = some (.slice (some af) x.f1.length d1) ∧ W1.cell? (ad.add (i * 8)) = some (.int .i64 xi.f0) ∧ W1.cell? ⟨(ad.add (i * 8)).block, (ad.add (i * 8)).off + 1, none⟩ = some (.int .i64 xi.f1) ∧ W1.cell? ⟨(ad.add (i * 8)).block, (ad.add (i * 8)).off + 2, none⟩ = some (.int .i64 xi.f2) ∧ W1.cell? ⟨(ad.add (i * 8)).block, (ad.add (i * 8)).off + 3, none⟩ = some (.slice Aa xi.f3.length ca) ∧ W1.cell? ⟨(ad.add (i * 8)).block, (ad.add (i * 8)).off + 4, none⟩ = some (.int .i64 xi.f4) ∧ W1.cell? ⟨(ad.add (i * 8)).block, (ad.add (i * 8)).off + 5, none⟩ = some (.int .i64 xi.f5) ∧ W1.cell? ⟨(ad.add (i * 8)).block, (ad.add (i * 8)).off + 6, none⟩ = some (.int .i64 xi.f6) ∧ W1.cell? ⟨(ad.add (i * 8)).block, (ad.add (i * 8)).off + 7, none⟩ = some (.bool xi.f7) ∧ W1.cell? (af.add (i * 8)) = some (.int .i64 xi.f0) ∧ W1.cell? ⟨(af.add (i * 8)).block, (af.add (i * 8)).off + 1, none⟩ = some (.int .i64 xi.f1) ∧ W1.cell? ⟨(af.add (i * 8)).block, (af.add (i * 8)).off + 2, none⟩ = some (.int .i64 xi.f2) ∧ W1.cell? ⟨(af.add (i * 8)).block, (af.add (i * 8)).off + 3, none⟩ = some (.slice Ab xi.f3.length cb) ∧ W1.cell? ⟨(af.add (i * 8)).block, (af.add (i * 8)).off + 4, none⟩ = some (.int .i64 xi.f4) ∧ W1.cell? ⟨(af.add (i * 8)).block, (af.add (i * 8)).off + 5, none⟩ = some (.int .i64 xi.f5) ∧ W1.cell? ⟨(af.add (i * 8)).block, (af.add (i * 8)).off + 6, none⟩ = some (.int .i64 xi.f6) ∧ W1.cell? ⟨(af.add (i * 8)).block, (af.add (i * 8)).off + 7, none⟩ = some (.bool xi.f7)) w9 := ⟨(Bx.cell (World.block_lt_of_cell? _ _ k1)).trans k1, (Bx.cell (World.block_lt_of_cell? _ _ l1)).trans l1, (Bx.cell (World.block_lt_of_cell? _ _ s0)).trans s0, (Bx.cell (World.block_lt_of_cell? _ _ s1)).trans s1, (Bx.cell (World.block_lt_of_cell? _ _ s2)).trans s2, (Bx.cell (World.block_lt_of_cell? _ _ s3)).trans s3, (Bx.cell (World.block_lt_of_cell? _ _ s4)).trans s4, (Bx.cell (World.block_lt_of_cell? _ _ s5)).trans s5, (Bx.cell (World.block_lt_of_cell? _ _ s6)).trans s6, (Bx.cell (World.block_lt_of_cell? _ _ s7)).trans s7, (Bx.cell (World.block_lt_of_cell? _ _ t0)).trans t0, (Bx.cell (World.block_lt_of_cell? _ _ t1)).trans t1, (Bx.cell (World.block_lt_of_cell? _ _ t2)).trans t2, (Bx.cell (World.block_lt_of_cell? _ _ t3)).trans t3, (Bx.cell (World.block_lt_of_cell? _ _ t4)).trans t4, (Bx.cell (World.block_lt_of_cell? _ _ t5)).trans t5, (Bx.cell (World.block_lt_of_cell? _ _ t6)).trans t6, (Bx.cell (World.block_lt_of_cell? _ _ t7)).trans t7⟩
   have hI9 : Aside0 (Below W5.heap.size W5 w9) := ⟨bl1 hJ.out Bx⟩
   clear Bx
   go_wp2_with fail
   refine hK.out _ _ f1 (fun hHeld2 => ?_)
   clear hK K f1
   try simp only [Act.put, List.setIfInBounds_toArray, List.set_cons_zero, List.set_cons_succ]
   refine Held.rest_ (by kernel_rfl) ?_
   simp only [List.drop_succ_cons, List.drop_zero]
   clear hHeld hHeld2 hC k1 l1 s0 s1 s2 s3 s4 s5 s6 s7 t0 t1 t2 t3 t4 t5 t6 t7
   go_wp2_with fail
   go_roundg gk1
   case rel => exact ⟨i + 1, hi1, by go_num, hI9⟩
   case measure => exact hgk1
  ·have hie : i = x.f1.length := by omega
   subst hie
   obtain ⟨k0, k1, l0, l1, m0, m1, m2, m3, m4, r0, r1, r2, r3, r4⟩ := hCl.out wr hJ.out
   clear k0 k1 l0 l1 m0 m1 m2 m4 r0 r1 r2 r3 r4
   go_wp2_with fail
   clear m3
   go_loopg [90] x.f2.f3.length (fun z v wi => ∃ i : Nat, i + z = x.f2.f3.length ∧ v = .int .i64 (i : Int) ∧ Aside0 (Below W5.heap.size W5 wi))
   case atStart => exact ⟨0, by omega, rfl, hJ⟩
   case round =>
    obtain ⟨i, hi, rfl, hJ⟩ := hrel
    by_cases hlt : i < x.f2.f3.length
    ·have hlti : (i : Int) < x.f2.f3.length := by omega
     have hi0 : (0 : Int) ≤ (i : Int) := by omega
     obtain ⟨gk1, rfl⟩ : ∃ z, gk = z + 1 := ⟨gk - 1, by omega⟩
     have hi1 : i + 1 + gk1 = x.f2.f3.length := by omega
     have hgk1 : gk1 < gk1 + 1 := by omega
     have hBw := hF.out.1.trans (hJ.out.mono hF.out.1.size)
     obtain ⟨ad, Aa, ca, eA, s0, s1, la, Ca⟩ := at_T98 (Kd.C_below hX.out.1.g5 hBw) (i : Int) hi0 hlti
     subst eA
     obtain ⟨af, Ab, cb, eA, t0, t1, lb, Cb⟩ := at_T98 (Kd.C_below hX.out.2.1.g5 hBw) (i : Int) hi0 hlti
     subst eA
     rw [Int.toNat_natCast] at s0 s1 t0 t1
     have hzi : (rd_T98 x.f2.f3 (i : Int)).f1.length * 8 ≤ 140737488355328 := by
      have e9 : rd_T98 x.f2.f3 (i : Int) = x.f2.f3[i] := by simp [rd_T98, List.getD_eq_getElem?_getD, hlt]
      rw [e9]
      exact hX.out.2.2.2.2.2.2.2.2 _ (List.getElem_mem hlt)
     obtain ⟨xe, hxe⟩ : ∃ xe, rd_T98 x.f2.f3 (i : Int) = xe := ⟨_, rfl⟩
     rw [hxe] at s0 s1 t0 t1 la lb Ca Cb hzi
     have hC := Aside0.mk (fun (W1 : World) (e1 : Below wr.heap.size wr W1) => eqs_any ca cb Aa Ab xe.f1 W1 (Kd.C_below Ca e1) la (Kd.C_below Cb e1) lb hzi)
     clear la lb Ca Cb hzi hxe hBw
     go_upto_region 13 with (fail)
     obtain ⟨wg, hwg⟩ : ∃ wg, wr.alloc (.cells #[.int .i64 xe.f0, .slice Aa xe.f1.length ca] 98 (0, 0)) = wg := ⟨_, rfl⟩
     obtain ⟨g9, hg9⟩ : ∃ g9, wr.heap.size = g9 := ⟨_, rfl⟩
     have Bg : Below wr.heap.size wr wg := by rw [← hwg]; exact below_alloc (Below.refl _ wr) _
     have h9 : wg.heap[g9]? = some (.cells #[.int .i64 xe.f0, .slice Aa xe.f1.length ca] 98 (0, 0)) := by rw [← hwg, ← hg9]; exact heap_alloc_new wr _
     rw [hwg, hg9]
     have y0 : wg.cell? ⟨g9, 0, none⟩ = some (.int .i64 xe.f0) := cell_at h9 rfl
     have y1 : wg.cell? ⟨g9, 1, none⟩ = some (.slice Aa xe.f1.length ca) := cell_at h9 rfl
     replace t0 := (Bg.cell (World.block_lt_of_cell? _ _ t0)).trans t0
     replace t1 := (Bg.cell (World.block_lt_of_cell? _ _ t1)).trans t1
     have hG := Aside0.mk (bl1 hJ.out Bg)
     have hC2 := Aside0.mk (fun (W1 : World) (e1 : Below wg.heap.size wg W1) => hC.out W1 (bl1 Bg e1))
     clear hwg hg9 h9 Bg s0 s1 hC
     obtain ⟨k0, k1, l0, l1, m0, m1, m2, m3, m4, r0, r1, r2, r3, r4⟩ := hCl.out wg hG.out
     clear k0 k1 l0 l1 m0 m1 m2 m3 m4 r0 r1 r2 r4
     refine Held.begin_ (S := fun W1 => W1.cell? ⟨g9, 0, none⟩ = some (.int .i64 xe.f0) ∧ W1.cell? ⟨g9, 1, none⟩ = some (.slice Aa xe.f1.length ca) ∧ W1.cell? ⟨q, 3, none⟩ = some (.slice (some af) x.f2.f3.length d5) ∧ W1.cell? (af.add (i * 2)) = some (.int .i64 xe.f0) ∧ W1.cell? ⟨(af.add (i * 2)).block, (af.add (i * 2)).off + 1, none⟩ = some (.slice Ab xe.f1.length cb)) 20 (by kernel_rfl) (by kernel_rfl) ?_ (fun hHeld => ?_)
     ·exact ⟨y0, y1, r3, t0, t1⟩
     simp only [List.length_cons, List.length_nil, Nat.reduceAdd, List.replicate, Array.replicate]
     refine Held.take_ (v := ?vv3980200) 0 rfl rfl (by kernel_rfl) (by kernel_rfl) (fun _ _ _ h => h) (by assumption) (Or.inl ⟨by rfl, ?hy3980200⟩) ?_
     case hy3980200 => intro w hSw; (try dsimp only at hSw); (go_simp <;> with_reducible rfl)
     try simp only [Act.put, List.setIfInBounds_toArray, List.set_cons_zero, List.set_cons_succ]
     refine Held.take_ (v := ?vv3980201) 1 rfl rfl (by kernel_rfl) (by kernel_rfl) (fun _ _ _ h => h) (by assumption) (Or.inl ⟨by rfl, ?hy3980201⟩) ?_
     case hy3980201 => intro w hSw; (try dsimp only at hSw); (go_simp <;> with_reducible rfl)
     try simp only [Act.put, List.setIfInBounds_toArray, List.set_cons_zero, List.set_cons_succ]
     refine Held.take_ (v := ?vv3980202) 2 rfl rfl (by kernel_rfl) (by kernel_rfl) (fun _ _ _ h => h) (by assumption) (Or.inl ⟨by rfl, ?hy3980202⟩) ?_
     case hy3980202 => intro w hSw; (try dsimp only at hSw); (go_simp <;> with_reducible rfl)
     try simp only [Act.put, List.setIfInBounds_toArray, List.set_cons_zero, List.set_cons_succ]
     refine Held.take_ (v := ?vv3980203) 3 rfl rfl (by kernel_rfl) (by kernel_rfl) (fun _ _ _ h => h) (by assumption) (Or.inl ⟨by rfl, ?hy3980203⟩) ?_
     case hy3980203 => intro w hSw; (try dsimp only at hSw); (go_simp <;> with_reducible rfl)
     try simp only [Act.put, List.setIfInBounds_toArray, List.set_cons_zero, List.set_cons_succ]
     refine Held.take_ (v := ?vv3980204) 4 rfl rfl (by kernel_rfl) (by kernel_rfl) (fun _ _ _ h => h) (by assumption) (Or.inl ⟨by rfl, ?hy3980204⟩) ?_
     case hy3980204 => intro w hSw; (try dsimp only at hSw); (go_simp <;> with_reducible rfl)
     try simp only [Act.put, List.setIfInBounds_toArray, List.set_cons_zero, List.set_cons_succ]
     refine Held.take_ (v := ?vv3980205) 5 rfl rfl (by kernel_rfl) (by kernel_rfl) (fun _ _ _ h => h) (by assumption) (Or.inl ⟨by rfl, ?hy3980205⟩) ?_
     case hy3980205 => intro w hSw; (try dsimp only at hSw); (go_simp <;> with_reducible rfl)
     try simp only [Act.put, List.setIfInBounds_toArray, List.set_cons_zero, List.set_cons_succ]
     refine Held.take_ (v := ?vv3980206) 6 rfl rfl (by kernel_rfl) (by kernel_rfl) (fun _ _ _ h => h) (by assumption) (Or.inl ⟨by rfl, ?hy3980206⟩) ?_
     case hy3980206 => intro w hSw; (try dsimp only at hSw); (go_simp <;> with_reducible rfl)
     try simp only [Act.put, List.setIfInBounds_toArray, List.set_cons_zero, List.set_cons_succ]
     refine Held.take_ (v := ?vv3980207) 7 rfl rfl (by kernel_rfl) (by kernel_rfl) (fun _ _ _ h => h) (by assumption) (Or.inl ⟨by rfl, ?hy3980207⟩) ?_
     case hy3980207 => intro w hSw; (try dsimp only at hSw); (go_simp <;> with_reducible rfl)
     try simp only [Act.put, List.setIfInBounds_toArray, List.set_cons_zero, List.set_cons_succ]
     refine Held.take_ (v := ?vv3980208) 8 rfl rfl (by kernel_rfl) (by kernel_rfl) (fun _ _ _ h => h) (by assumption) (Or.inl ⟨by rfl, ?hy3980208⟩) ?_
     case hy3980208 => intro w hSw; (try dsimp only at hSw); (go_simp <;> with_reducible rfl)
     try simp only [Act.put, List.setIfInBounds_toArray, List.set_cons_zero, List.set_cons_succ]
     refine Held.take_ (v := ?vv3980209) 9 rfl rfl (by kernel_rfl) (by kernel_rfl) (fun _ _ _ h => h) (by assumption) (Or.inl ⟨by rfl, ?hy3980209⟩) ?_
     case hy3980209 => intro w hSw; (try dsimp only at hSw); (go_simp <;> with_reducible rfl)
     try simp only [Act.put, List.setIfInBounds_toArray, List.set_cons_zero, List.set_cons_succ]
     refine Held.take_ (v := ?vv3980210) 10 rfl rfl (by kernel_rfl) (by kernel_rfl) (fun _ _ _ h => h) (by assumption) (Or.inl ⟨by rfl, ?hy3980210⟩) ?_
     case hy3980210 => intro w hSw; (try dsimp only at hSw); (go_simp <;> with_reducible rfl)
     try simp only [Act.put, List.setIfInBounds_toArray, List.set_cons_zero, List.set_cons_succ]
     refine Held.take_ (v := ?vv3980211) 11 rfl rfl (by kernel_rfl) (by kernel_rfl) (fun _ _ _ h => h) (by assumption) (Or.inl ⟨by rfl, ?hy3980211⟩) ?_
     case hy3980211 => intro w hSw; (try dsimp only at hSw); (go_simp <;> with_reducible rfl)
     try simp only [Act.put, List.setIfInBounds_toArray, List.set_cons_zero, List.set_cons_succ]
     refine Held.take_ (v := ?vv3980212) 12 rfl rfl (by kernel_rfl) (by kernel_rfl) (fun _ _ _ h => h) (by assumption) (Or.inl ⟨by rfl, ?hy3980212⟩) ?_
     case hy3980212 => intro w hSw; (try dsimp only at hSw); (go_simp <;> with_reducible rfl)
     try simp only [Act.put, List.setIfInBounds_toArray, List.set_cons_zero, List.set_cons_succ]
     refine Held.take_ (v := ?vv3980213) 13 rfl rfl (by kernel_rfl) (by kernel_rfl) (fun _ _ _ h => h) (by assumption) (Or.inl ⟨by rfl, ?hy3980213⟩) ?_
     case hy3980213 => intro w hSw; (try dsimp only at hSw); (go_simp <;> with_reducible rfl)
     try simp only [Act.put, List.setIfInBounds_toArray, List.set_cons_zero, List.set_cons_succ]
     refine Held.take_ (v := ?vv3980214) 14 rfl rfl (by kernel_rfl) (by kernel_rfl) (fun _ _ _ h => h) (by assumption) (Or.inl ⟨by rfl, ?hy3980214⟩) ?_
     case hy3980214 => intro w hSw; (try dsimp only at hSw); (go_simp <;> with_reducible rfl)
     try simp only [Act.put, List.setIfInBounds_toArray, List.set_cons_zero, List.set_cons_succ]
     refine Held.take_ (v := ?vv3980215) 15 rfl rfl (by kernel_rfl) (by kernel_rfl) (fun _ _ _ h => h) (by assumption) (Or.inl ⟨by rfl, ?hy3980215⟩) ?_
     case hy3980215 => intro w hSw; (try dsimp only at hSw); (go_simp <;> with_reducible rfl)
     try simp only [Act.put, List.setIfInBounds_toArray, List.set_cons_zero, List.set_cons_succ]
     refine Held.take_ (v := ?vv3980216) 16 rfl rfl (by kernel_rfl) (by kernel_rfl) (fun _ _ _ h => h) (by assumption) (Or.inl ⟨by rfl, ?hy3980216⟩) ?_
     case hy3980216 => intro w hSw; (try dsimp only at hSw); (go_simp <;> with_reducible rfl)
     try simp only [Act.put, List.setIfInBounds_toArray, List.set_cons_zero, List.set_cons_succ]
     refine Held.take_ (v := ?vv3980217) 17 rfl rfl (by kernel_rfl) (by kernel_rfl) (fun _ _ _ h => h) (by assumption) (Or.inl ⟨by rfl, ?hy3980217⟩) ?_
     case hy3980217 => intro w hSw; (try dsimp only at hSw); (go_simp <;> with_reducible rfl)
     try simp only [Act.put, List.setIfInBounds_toArray, List.set_cons_zero, List.set_cons_succ]
     refine Held.step_ 18 rfl rfl (by kernel_rfl) (fun K hK => ?_)
     go_simp
     go_at_call 12
     with_reducible refine (hC2.out _ (below_drew (Below.refl _ _))).mono ?_
     rintro e' w9 ⟨rfl, Bx0⟩
     have Bx : Below wg.heap.size wg w9 := (below_drew (Below.refl _ wg)).trans Bx0
     clear Bx0
     have f1 : (fun W1 => W1.cell? ⟨g9, 0, none⟩ = some (.int .i64 xe.f0) ∧ W1.cell? ⟨g9, 1, none⟩ = some (.slice Aa xe.f1.length ca) ∧ W1.cell? ⟨q, 3, none⟩ = some (.slice (some af) x.f2.f3.length d5) ∧ W1.cell? (af.add (i * 2)) = some (.int .i64 xe.f0) ∧ W1.cell? ⟨(af.add (i * 2)).block, (af.add (i * 2)).off + 1, none⟩ = some (.slice Ab xe.f1.length cb)) w9 := ⟨(Bx.cell (World.block_lt_of_cell? _ _ y0)).trans y0, (Bx.cell (World.block_lt_of_cell? _ _ y1)).trans y1, (Bx.cell (World.block_lt_of_cell? _ _ r3)).trans r3, (Bx.cell (World.block_lt_of_cell? _ _ t0)).trans t0, (Bx.cell (World.block_lt_of_cell? _ _ t1)).trans t1⟩
     have hI9 : Aside0 (Below W5.heap.size W5 w9) := ⟨bl1 hG.out Bx⟩
     clear Bx
     go_wp2_with fail
     refine hK.out _ _ f1 (fun hHeld2 => ?_)
     clear hK K f1
     try simp only [Act.put, List.setIfInBounds_toArray, List.set_cons_zero, List.set_cons_succ]
     refine Held.take_ (v := ?vv4116119) 19 rfl rfl (by kernel_rfl) (by kernel_rfl) (fun _ _ _ h => h) (by assumption) (Or.inl ⟨by rfl, ?hy4116119⟩) ?_
     case hy4116119 => intro w hSw; (try dsimp only at hSw); (go_simp <;> with_reducible rfl)
     try simp only [Act.put, List.setIfInBounds_toArray, List.set_cons_zero, List.set_cons_succ]
     refine Held.rest_ (by kernel_rfl) ?_
     simp only [List.drop_succ_cons, List.drop_zero]
     clear hHeld hHeld2 hC2 hG y0 y1 r3 t0 t1
     go_wp2_with fail
     go_roundg gk1
     case rel => exact ⟨i + 1, hi1, by go_num, hI9⟩
     case measure => exact hgk1
    ·go_wp2
     go_ret
     exact ⟨rfl, hF.out.1.trans (hJ.out.mono hF.out.1.size)⟩
end
end Go.Proofs.YtjacphcbiaacnaaDoor
end

section
set_option linter.unusedVariables false
set_option linter.unusedSimpArgs false
set_option linter.unusedSectionVars false
namespace Go.Proofs.YtjacphcbiaacnaaDoor
open Go.RowKit Go.Proofs.YtjacphcbiaacnaaDoorW.PrintWords Go.Proofs.YtjacphcbiaacnaaDoorW.PrintMore Go.Proofs.YtjacphcbiaacnaaDoorW.PrintLast Go.Proofs.YtjacphcbiaacnaaDoor.PDigraphTells Mem Sc
structure RF (w : World) (x : S55) (Rs : List S31) (AP : Option Addr) (cP : Nat) (AR : Option Addr) (cR : Nat) (AB : Option Addr) (cB : Nat) : Prop where
 hP : x.f1.length ≤ cP
 gP : Kd.C (Kd.int .i64) w AP x.f1.length x.f1
 hR : x.f3.length ≤ cR
 gR : Kd.C (Kd.int .i64) w AR x.f3.length x.f3
 hB : Rs.length ≤ cB
 gB : Kd.C k31 w AB Rs.length Rs
theorem szB_reord {b : S31} {o : List Int} (h : szB b) (ho : o.length ≤ 60) : szB (reord b o) := by
 refine ⟨h.1, by simp only [reord, List.length_map]; omega, fun i hi => ?_, h.2.2.2⟩
 obtain ⟨a, _, rfl⟩ := List.mem_map.1 (show i ∈ o.map (fun k => rd_T48 b.f1 k) from hi)
 unfold rd_T48
 rw [List.getD_eq_getElem?_getD]
 rcases Nat.lt_or_ge a.toNat b.f1.length with hl | hl
 ·rw [List.getElem?_eq_getElem hl, Option.getD_some]
  exact h.2.2.1 _ (List.getElem_mem hl)
 ·rw [List.getElem?_eq_none (by omega), Option.getD_none]
  decide
theorem IsSch.len {W R : Int} {Lat : List Int} {xs Rs : List S31} (h : IsSch W R Lat xs Rs) : Rs.length = xs.length := by
 rcases h with ⟨_, rfl⟩ | ⟨_, h2, _⟩
 ·rfl
 ·exact h2
theorem IsSch.sz {W R : Int} {Lat : List Int} {xs Rs : List S31} (h : IsSch W R Lat xs Rs) (hz : ∀ b ∈ xs, szB b) (hs : ∀ b ∈ xs, sml b.f1) : ∀ b ∈ Rs, szB b := by
 rcases h with ⟨_, rfl⟩ | ⟨_, h2, h3⟩
 ·exact hz
 ·intro b hb
  obtain ⟨j, hj, rfl⟩ := List.mem_iff_getElem.1 hb
  obtain ⟨o, y, hI, he⟩ := h3 j _ (List.getElem?_eq_getElem (by omega))
  rw [List.getElem?_eq_getElem hj] at he
  injection he with he
  rw [he]
  have hm := hs _ (List.getElem_mem (show j < xs.length by omega))
  exact szB_reord (hz _ (List.getElem_mem (by omega))) (Nat.le_trans (hI.bounds hm.len).2.1 hm.len)
section
variable {w w1 : World} {x : S55} {Rs : List S31} {AP : Option Addr} {cP : Nat} {AR : Option Addr} {cR : Nat} {AB : Option Addr} {cB : Nat} {EP : Option Addr} {dP : Nat} {ER : Option Addr} {dR : Nat} {EB : Option Addr} {dB : Nat}
theorem RF.below (h : RF w x Rs AP cP AR cR AB cB) (hb : Below w.heap.size w w1) : RF w1 x Rs AP cP AR cR AB cB := ⟨h.hP, Kd.C_below h.gP hb, h.hR, Kd.C_below h.gR hb, h.hB, Kd.C_below h.gB hb⟩
set_option maxRecDepth 100000 in
set_option maxHeartbeats 8000000 in
theorem eqff_any (h : RF w x Rs AP cP AR cR AB cB) (g : RF w x Rs EP dP ER dR EB dB) (z1 : x.f1.length * 8 ≤ 140737488355328) (z3 : x.f3.length * 8 ≤ 140737488355328) (zR : Rs.length ≤ 140737488355328) (hz : ∀ b ∈ Rs, szB b) :
  Calls Tryd.prog 37 #[.agg #[.string x.f0, .slice AP x.f1.length cP, .int .i64 x.f2, .slice AR x.f3.length cR, .slice AB Rs.length cB], .agg #[.string x.f0, .slice EP x.f1.length dP, .int .i64 x.f2, .slice ER x.f3.length dR, .slice EB Rs.length dB]] w fun e w' => e = .returned (.bool true) ∧ Below w.heap.size w w' := by
 have hX := Aside0.mk (And.intro h (And.intro g hz))
 have hs1 := Aside0.mk (fun (W1 : World) (e1 : Below w.heap.size w W1) => eqs_any cP dP AP EP x.f1 W1 (Kd.C_below h.gP e1) h.hP (Kd.C_below g.gP e1) g.hP z1)
 have hs3 := Aside0.mk (fun (W1 : World) (e1 : Below w.heap.size w W1) => eqt_any cR dR AR ER x.f3 W1 (Kd.C_below h.gR e1) h.hR (Kd.C_below g.gR e1) g.hR z3)
 clear h g hz z1 z3
 go_enter Tryd.func37, Tryd.ntmps37
 go_upto_region 1 with (fail)
 obtain ⟨w2, hw2⟩ : ∃ w2, (w.alloc (.cells #[.string x.f0, .slice AP x.f1.length cP, .int .i64 x.f2, .slice AR x.f3.length cR, .slice AB Rs.length cB] 74 (0, 0))).alloc (.cells #[.string x.f0, .slice EP x.f1.length dP, .int .i64 x.f2, .slice ER x.f3.length dR, .slice EB Rs.length dB] 74 (0, 0)) = w2 := ⟨_, rfl⟩
 obtain ⟨b0, hb0⟩ : ∃ b0, w.heap.size = b0 := ⟨_, rfl⟩
 obtain ⟨B2, h7, h8⟩ := box_two hw2 hb0
 rw [hw2, hb0]
 clear hw2 hb0
 have hCl : Aside0 (∀ W1 : World, Below w2.heap.size w2 W1 → W1.cell? ⟨b0, 0, none⟩ = some (.string x.f0) ∧ W1.cell? ⟨b0, 1, none⟩ = some (.slice AP x.f1.length cP) ∧ W1.cell? ⟨b0, 2, none⟩ = some (.int .i64 x.f2) ∧ W1.cell? ⟨b0, 3, none⟩ = some (.slice AR x.f3.length cR) ∧ W1.cell? ⟨b0, 4, none⟩ = some (.slice AB Rs.length cB) ∧ W1.cell? ⟨b0 + 1, 0, none⟩ = some (.string x.f0) ∧ W1.cell? ⟨b0 + 1, 1, none⟩ = some (.slice EP x.f1.length dP) ∧ W1.cell? ⟨b0 + 1, 2, none⟩ = some (.int .i64 x.f2) ∧ W1.cell? ⟨b0 + 1, 3, none⟩ = some (.slice ER x.f3.length dR) ∧ W1.cell? ⟨b0 + 1, 4, none⟩ = some (.slice EB Rs.length dB)) := ⟨fun W1 e1 => by
  have z1 := (e1.block _ (blk_lt' h7)).trans h7
  have z2 := (e1.block _ (blk_lt' h8)).trans h8
  exact ⟨cell_at z1 rfl, cell_at z1 rfl, cell_at z1 rfl, cell_at z1 rfl, cell_at z1 rfl, cell_at z2 rfl, cell_at z2 rfl, cell_at z2 rfl, cell_at z2 rfl, cell_at z2 rfl⟩⟩
 have hB2 := Aside0.mk B2
 clear B2 h7 h8
 obtain ⟨k0, k1, k2, k3, k4, l0, l1, l2, l3, l4⟩ := hCl.out w2 (Below.refl _ _)
 go_wp2_with fail
 refine (hs1.out w2 hB2.out).mono ?_
 rintro e w6 ⟨rfl, b6⟩
 clear k0 k1 k2 k3 k4 l0 l1 l2 l3 l4
 obtain ⟨k0, k1, k2, k3, k4, l0, l1, l2, l3, l4⟩ := hCl.out w6 b6
 have B6 := Aside0.mk (And.intro b6 (hB2.out.trans (b6.mono hB2.out.size)))
 clear b6
 go_wp2_with fail
 refine (hs3.out w6 B6.out.2).mono ?_
 rintro e w8 ⟨rfl, b8⟩
 clear k0 k1 k2 k3 k4 l0 l1 l2 l3 l4
 have b8' := bl1 B6.out.1 b8
 obtain ⟨k0, k1, k2, k3, k4, l0, l1, l2, l3, l4⟩ := hCl.out w8 b8'
 have B8 : Aside0 (Below w2.heap.size w2 w8) := ⟨b8'⟩
 clear b8 b8' B6
 go_wp2_with fail
 clear k0 k1 k2 k3 k4 l0 l1 l2 l3 l4
 go_loopg [46] Rs.length (fun z v wi => ∃ i : Nat, i + z = Rs.length ∧ v = .int .i64 (i : Int) ∧ Aside0 (Below w2.heap.size w2 wi))
 case atStart => exact ⟨0, by omega, rfl, B8⟩
 case round =>
  obtain ⟨i, hi, rfl, hJ⟩ := hrel
  clear B8
  by_cases hlt : i < Rs.length
  ·have hlti : (i : Int) < Rs.length := by omega
   have hi0 : (0 : Int) ≤ (i : Int) := by omega
   obtain ⟨gk1, rfl⟩ : ∃ z, gk = z + 1 := ⟨gk - 1, by omega⟩
   have hi1 : i + 1 + gk1 = Rs.length := by omega
   have hgk1 : gk1 < gk1 + 1 := by omega
   have hBw := hB2.out.trans (hJ.out.mono hB2.out.size)
   obtain ⟨ad, F0, F0c, F1, F1c, F3, F3c, F4, F4c, F5, F5c, eA, s0, s1, s2, s3, s4, s5, s6, m0, n0, m1, n1, m3, n3, m4, n4, m5, n5⟩ := at_T31 (Kd.C_below hX.out.1.gB hBw) (i : Int) hi0 hlti
   subst eA
   obtain ⟨af, G0, G0c, G1, G1c, G3, G3c, G4, G4c, G5, G5c, eA, t0, t1, t2, t3, t4, t5, t6, p0, q0, p1, q1, p3, q3, p4, q4, p5, q5⟩ := at_T31 (Kd.C_below hX.out.2.1.gB hBw) (i : Int) hi0 hlti
   subst eA
   rw [Int.toNat_natCast] at s0 s1 s2 s3 s4 s5 s6 t0 t1 t2 t3 t4 t5 t6
   have hzi : szB (rd_T31 Rs (i : Int)) := by
    have e9 : rd_T31 Rs (i : Int) = Rs[i] := by simp [rd_T31, List.getD_eq_getElem?_getD, hlt]
    rw [e9]
    exact hX.out.2.2 _ (List.getElem_mem hlt)
   have hb1 : RB wr (rd_T31 Rs (i : Int)) F0 F0c F1 F1c F3 F3c F4 F4c F5 F5c := ⟨m0, n0, m1, n1, m3, n3, m4, n4, m5, n5⟩
   have hb2 : RB wr (rd_T31 Rs (i : Int)) G0 G0c G1 G1c G3 G3c G4 G4c G5 G5c := ⟨p0, q0, p1, q1, p3, q3, p4, q4, p5, q5⟩
   clear m0 n0 m1 n1 m3 n3 m4 n4 m5 n5 p0 q0 p1 q1 p3 q3 p4 q4 p5 q5
   obtain ⟨xb, hxb⟩ : ∃ xb, rd_T31 Rs (i : Int) = xb := ⟨_, rfl⟩
   rw [hxb] at s0 s1 s2 s3 s4 s5 s6 t0 t1 t2 t3 t4 t5 t6 hzi hb1 hb2
   have hC := Aside0.mk (fun (W1 : World) (e1 : Below wr.heap.size wr W1) => eqb_any (hb1.below e1) (hb2.below e1) hzi)
   obtain ⟨k0, k1, k2, k3, k4, l0, l1, l2, l3, l4⟩ := hCl.out wr hJ.out
   clear hb1 hb2 hzi hxb hBw k0 k1 k2 k3 l0 l1 l2 l3
   go_upto_region 6 with (fail)
   refine Held.begin_ (S := fun W1 => W1.cell? ⟨b0, 4, none⟩ = some (.slice (some ad) Rs.length cB) ∧ W1.cell? ⟨b0 + 1, 4, none⟩ = some (.slice (some af) Rs.length dB) ∧ W1.cell? (ad.add (i * 7)) = some (.slice F0 xb.f0.length F0c) ∧ W1.cell? ⟨(ad.add (i * 7)).block, (ad.add (i * 7)).off + 1, none⟩ = some (.slice F1 xb.f1.length F1c) ∧ W1.cell? ⟨(ad.add (i * 7)).block, (ad.add (i * 7)).off + 2, none⟩ = some (.int .i64 xb.f2.f0) ∧ W1.cell? ⟨(ad.add (i * 7)).block, (ad.add (i * 7)).off + 3, none⟩ = some (.slice F3 xb.f2.f1.length F3c) ∧ W1.cell? ⟨(ad.add (i * 7)).block, (ad.add (i * 7)).off + 4, none⟩ = some (.slice F4 xb.f2.f2.length F4c) ∧ W1.cell? ⟨(ad.add (i * 7)).block, (ad.add (i * 7)).off + 5, none⟩ = some (.slice F5 xb.f2.f3.length F5c) ∧ W1.cell? ⟨(ad.add (i * 7)).block, (ad.add (i * 7)).off + 6, none⟩ = some (.int .i64 xb.f2.f4) ∧ W1.cell? (af.add (i * 7)) = some (.slice G0 xb.f0.length G0c) ∧ W1.cell? ⟨(af.add (i * 7)).block, (af.add (i * 7)).off + 1, none⟩ = some (.slice G1 xb.f1.length G1c) ∧ W1.cell? ⟨(af.add (i * 7)).block, (af.add (i * 7)).off + 2, none⟩ = some (.int .i64 xb.f2.f0) ∧ W1.cell? ⟨(af.add (i * 7)).block, (af.add (i * 7)).off + 3, none⟩ = some (.slice G3 xb.f2.f1.length G3c) ∧ W1.cell? ⟨(af.add (i * 7)).block, (af.add (i * 7)).off + 4, none⟩ = some (.slice G4 xb.f2.f2.length G4c) ∧ W1.cell? ⟨(af.add (i * 7)).block, (af.add (i * 7)).off + 5, none⟩ = some (.slice G5 xb.f2.f3.length G5c) ∧ W1.cell? ⟨(af.add (i * 7)).block, (af.add (i * 7)).off + 6, none⟩ = some (.int .i64 xb.f2.f4)) 11 (by kernel_rfl) (by kernel_rfl) ?_ (fun hHeld => ?_)
   ·exact ⟨k4, l4, s0, s1, s2, s3, s4, s5, s6, t0, t1, t2, t3, t4, t5, t6⟩
   simp only [List.length_cons, List.length_nil, Nat.reduceAdd, List.replicate, Array.replicate]
   refine Held.take_ (v := ?vv967700) 0 rfl rfl (by kernel_rfl) (by kernel_rfl) (fun _ _ _ h => h) (by assumption) (Or.inl ⟨by rfl, ?hy967700⟩) ?_
   case hy967700 => intro w hSw; (try dsimp only at hSw); (go_simp <;> with_reducible rfl)
   try simp only [Act.put, List.setIfInBounds_toArray, List.set_cons_zero, List.set_cons_succ]
   refine Held.take_ (v := ?vv967701) 1 rfl rfl (by kernel_rfl) (by kernel_rfl) (fun _ _ _ h => h) (by assumption) (Or.inl ⟨by rfl, ?hy967701⟩) ?_
   case hy967701 => intro w hSw; (try dsimp only at hSw); (go_simp <;> with_reducible rfl)
   try simp only [Act.put, List.setIfInBounds_toArray, List.set_cons_zero, List.set_cons_succ]
   refine Held.take_ (v := ?vv967702) 2 rfl rfl (by kernel_rfl) (by kernel_rfl) (fun _ _ _ h => h) (by assumption) (Or.inl ⟨by rfl, ?hy967702⟩) ?_
   case hy967702 => intro w hSw; (try dsimp only at hSw); (go_simp <;> with_reducible rfl)
   try simp only [Act.put, List.setIfInBounds_toArray, List.set_cons_zero, List.set_cons_succ]
   refine Held.take_ (v := ?vv967703) 3 rfl rfl (by kernel_rfl) (by kernel_rfl) (fun _ _ _ h => h) (by assumption) (Or.inl ⟨by rfl, ?hy967703⟩) ?_
   case hy967703 => intro w hSw; (try dsimp only at hSw); (go_simp <;> with_reducible rfl)
   try simp only [Act.put, List.setIfInBounds_toArray, List.set_cons_zero, List.set_cons_succ]
   refine Held.take_ (v := ?vv967704) 4 rfl rfl (by kernel_rfl) (by kernel_rfl) (fun _ _ _ h => h) (by assumption) (Or.inl ⟨by rfl, ?hy967704⟩) ?_
   case hy967704 => intro w hSw; (try dsimp only at hSw); (go_simp <;> with_reducible rfl)
   try simp only [Act.put, List.setIfInBounds_toArray, List.set_cons_zero, List.set_cons_succ]
   refine Held.take_ (v := ?vv967705) 5 rfl rfl (by kernel_rfl) (by kernel_rfl) (fun _ _ _ h => h) (by assumption) (Or.inl ⟨by rfl, ?hy967705⟩) ?_
   case hy967705 => intro w hSw; (try dsimp only at hSw); (go_simp <;> with_reducible rfl)
   try simp only [Act.put, List.setIfInBounds_toArray, List.set_cons_zero, List.set_cons_succ]
   refine Held.take_ (v := ?vv967706) 6 rfl rfl (by kernel_rfl) (by kernel_rfl) (fun _ _ _ h => h) (by assumption) (Or.inl ⟨by rfl, ?hy967706⟩) ?_
   case hy967706 => intro w hSw; (try dsimp only at hSw); (go_simp <;> with_reducible rfl)
   try simp only [Act.put, List.setIfInBounds_toArray, List.set_cons_zero, List.set_cons_succ]
   refine Held.take_ (v := ?vv967707) 7 rfl rfl (by kernel_rfl) (by kernel_rfl) (fun _ _ _ h => h) (by assumption) (Or.inl ⟨by rfl, ?hy967707⟩) ?_
   case hy967707 => intro w hSw; (try dsimp only at hSw); (go_simp <;> with_reducible rfl)
   try simp only [Act.put, List.setIfInBounds_toArray, List.set_cons_zero, List.set_cons_succ]
   refine Held.take_ (v := ?vv967708) 8 rfl rfl (by kernel_rfl) (by kernel_rfl) (fun _ _ _ h => h) (by assumption) (Or.inl ⟨by rfl, ?hy967708⟩) ?_
   case hy967708 => intro w hSw; (try dsimp only at hSw); (go_simp <;> with_reducible rfl)
   try simp only [Act.put, List.setIfInBounds_toArray, List.set_cons_zero, List.set_cons_succ]
   refine Held.take_ (v := ?vv967709) 9 rfl rfl (by kernel_rfl) (by kernel_rfl) (fun _ _ _ h => h) (by assumption) (Or.inl ⟨by rfl, ?hy967709⟩) ?_
   case hy967709 => intro w hSw; (try dsimp only at hSw); (go_simp <;> with_reducible rfl)
   try simp only [Act.put, List.setIfInBounds_toArray, List.set_cons_zero, List.set_cons_succ]
   refine Held.step_ 10 rfl rfl (by kernel_rfl) (fun K hK => ?_)
   go_simp
   go_at_call 54
   with_reducible refine (hC.out _ (below_drew (Below.refl _ _))).mono ?_
   rintro e' w9 ⟨rfl, Bx0⟩
   have Bx : Below wr.heap.size wr w9 := (below_drew (Below.refl _ wr)).trans Bx0
   clear Bx0
   have f1 : (fun W1 => W1.cell? ⟨b0, 4, none⟩ = some (.slice (some ad) Rs.length cB) ∧ W1.cell? ⟨b0 + 1, 4, none⟩ = some (.slice (some af) Rs.length dB) ∧ W1.cell? (ad.add (i * 7)) = some (.slice F0 xb.f0.length F0c) ∧ W1.cell? ⟨(ad.add (i * 7)).block, (ad.add (i * 7)).off + 1, none⟩ = some (.slice F1 xb.f1.length F1c) ∧ W1.cell? ⟨(ad.add (i * 7)).block, (ad.add (i * 7)).off + 2, none⟩ = some (.int .i64 xb.f2.f0) ∧ W1.cell? ⟨(ad.add (i * 7)).block, (ad.add (i * 7)).off + 3, none⟩ = some (.slice F3 xb.f2.f1.length F3c) ∧ W1.cell? ⟨(ad.add (i * 7)).block, (ad.add (i * 7)).off + 4, none⟩ = some (.slice F4 xb.f2.f2.length F4c) ∧ W1.cell? ⟨(ad.add (i * 7)).block, (ad.add (i * 7)).off + 5, none⟩ = some (.slice F5 xb.f2.f3.length F5c) ∧ W1.cell? ⟨(ad.add (i * 7)).block, (ad.add (i * 7)).off + 6, none⟩ = some (.int .i64 xb.f2.f4) ∧ W1.cell? (af.add (i * 7)) = some (.slice G0 xb.f0.length G0c) ∧ W1.cell? ⟨(af.add (i * 7)).block, (af.add (i * 7)).off + 1, none⟩ = some (.slice G1 xb.f1.length G1c) ∧ W1.cell? ⟨(af.add (i * 7)).block, (af.add (i * 7)).off + 2, none⟩ = some (.int .i64 xb.f2.f0) ∧ W1.cell? ⟨(af.add (i * 7)).block, (af.add (i * 7)).off + 3, none⟩ = some (.slice G3 xb.f2.f1.length G3c) ∧ W1.cell? ⟨(af.add (i * 7)).block, (af.add (i * 7)).off + 4, none⟩ = some (.slice G4 xb.f2.f2.length G4c) ∧ W1.cell? ⟨(af.add (i * 7)).block, (af.add (i * 7)).off + 5, none⟩ = some (.slice G5 xb.f2.f3.length G5c) ∧ W1.cell? ⟨(af.add (i * 7)).block, (af.add (i * 7)).off + 6, none⟩ = some (.int .i64 xb.f2.f4)) w9 := ⟨(Bx.cell (World.block_lt_of_cell? _ _ k4)).trans k4, (Bx.cell (World.block_lt_of_cell? _ _ l4)).trans l4, (Bx.cell (World.block_lt_of_cell? _ _ s0)).trans s0, (Bx.cell (World.block_lt_of_cell? _ _ s1)).trans s1, (Bx.cell (World.block_lt_of_cell? _ _ s2)).trans s2, (Bx.cell (World.block_lt_of_cell? _ _ s3)).trans s3, (Bx.cell (World.block_lt_of_cell? _ _ s4)).trans s4, (Bx.cell (World.block_lt_of_cell? _ _ s5)).trans s5, (Bx.cell (World.block_lt_of_cell? _ _ s6)).trans s6, (Bx.cell (World.block_lt_of_cell? _ _ t0)).trans t0, (Bx.cell (World.block_lt_of_cell? _ _ t1)).trans t1, (Bx.cell (World.block_lt_of_cell? _ _ t2)).trans t2, (Bx.cell (World.block_lt_of_cell? _ _ t3)).trans t3, (Bx.cell (World.block_lt_of_cell? _ _ t4)).trans t4, (Bx.cell (World.block_lt_of_cell? _ _ t5)).trans t5, (Bx.cell (World.block_lt_of_cell? _ _ t6)).trans t6⟩
   have hI9 : Aside0 (Below w2.heap.size w2 w9) := ⟨bl1 hJ.out Bx⟩
   clear Bx
   go_wp2_with fail
   refine hK.out _ _ f1 (fun hHeld2 => ?_)
   clear hK K f1
   try simp only [Act.put, List.setIfInBounds_toArray, List.set_cons_zero, List.set_cons_succ]
   refine Held.rest_ (by kernel_rfl) ?_
   simp only [List.drop_succ_cons, List.drop_zero]
   clear hHeld hHeld2 hC k4 l4 s0 s1 s2 s3 s4 s5 s6 t0 t1 t2 t3 t4 t5 t6
   go_wp2_with fail
   go_roundg gk1
   case rel => exact ⟨i + 1, hi1, by go_num, hI9⟩
   case measure => exact hgk1
  ·go_wp2
   go_ret
   exact ⟨rfl, hB2.out.trans (hJ.out.mono hB2.out.size)⟩
set_option maxRecDepth 100000 in
set_option maxHeartbeats 8000000 in
theorem req_any (h : RF w x Rs AP cP AR cR AB cB) (g : RF w x Rs EP dP ER dR EB dB) (z1 : x.f1.length * 8 ≤ 140737488355328) (z3 : x.f3.length * 8 ≤ 140737488355328) (zR : Rs.length ≤ 140737488355328) (hz : ∀ b ∈ Rs, szB b) :
  Calls Tryd.prog 23 #[.agg #[.string x.f0, .slice AP x.f1.length cP, .int .i64 x.f2, .slice AR x.f3.length cR, .int .i64 x.f4, .int .i64 x.f5, .slice AB Rs.length cB], .agg #[.string x.f0, .slice EP x.f1.length dP, .int .i64 x.f2, .slice ER x.f3.length dR, .int .i64 x.f4, .int .i64 x.f5, .slice EB Rs.length dB]] w fun e w' => e = .returned (.bool true) ∧ Below w.heap.size w w' := by
 have hE := Aside0.mk (fun (W1 : World) (e1 : Below w.heap.size w W1) => eqff_any (h.below e1) (g.below e1) z1 z3 zR hz)
 clear h g hz z1 z3
 go_enter Tryd.func23, Tryd.ntmps23
 go_upto_region 1 with (fail)
 obtain ⟨w2, hw2⟩ : ∃ w2, (w.alloc (.cells #[.string x.f0, .slice AP x.f1.length cP, .int .i64 x.f2, .slice AR x.f3.length cR, .int .i64 x.f4, .int .i64 x.f5, .slice AB Rs.length cB] 55 (0, 0))).alloc (.cells #[.string x.f0, .slice EP x.f1.length dP, .int .i64 x.f2, .slice ER x.f3.length dR, .int .i64 x.f4, .int .i64 x.f5, .slice EB Rs.length dB] 55 (0, 0)) = w2 := ⟨_, rfl⟩
 obtain ⟨b0, hb0⟩ : ∃ b0, w.heap.size = b0 := ⟨_, rfl⟩
 obtain ⟨B2, h7, h8⟩ := box_two hw2 hb0
 rw [hw2, hb0]
 clear hw2
 have k0 : w2.cell? ⟨b0, 0, none⟩ = some (.string x.f0) := cell_at h7 rfl
 have k1 : w2.cell? ⟨b0, 1, none⟩ = some (.slice AP x.f1.length cP) := cell_at h7 rfl
 have k2 : w2.cell? ⟨b0, 2, none⟩ = some (.int .i64 x.f2) := cell_at h7 rfl
 have k3 : w2.cell? ⟨b0, 3, none⟩ = some (.slice AR x.f3.length cR) := cell_at h7 rfl
 have k4 : w2.cell? ⟨b0, 4, none⟩ = some (.int .i64 x.f4) := cell_at h7 rfl
 have k5 : w2.cell? ⟨b0, 5, none⟩ = some (.int .i64 x.f5) := cell_at h7 rfl
 have k6 : w2.cell? ⟨b0, 6, none⟩ = some (.slice AB Rs.length cB) := cell_at h7 rfl
 have l0 : w2.cell? ⟨b0 + 1, 0, none⟩ = some (.string x.f0) := cell_at h8 rfl
 have l1 : w2.cell? ⟨b0 + 1, 1, none⟩ = some (.slice EP x.f1.length dP) := cell_at h8 rfl
 have l2 : w2.cell? ⟨b0 + 1, 2, none⟩ = some (.int .i64 x.f2) := cell_at h8 rfl
 have l3 : w2.cell? ⟨b0 + 1, 3, none⟩ = some (.slice ER x.f3.length dR) := cell_at h8 rfl
 have l4 : w2.cell? ⟨b0 + 1, 4, none⟩ = some (.int .i64 x.f4) := cell_at h8 rfl
 have l5 : w2.cell? ⟨b0 + 1, 5, none⟩ = some (.int .i64 x.f5) := cell_at h8 rfl
 have l6 : w2.cell? ⟨b0 + 1, 6, none⟩ = some (.slice EB Rs.length dB) := cell_at h8 rfl
 have hB2 := Aside0.mk B2
 have hH := Aside0.mk (And.intro h7 h8)
 clear B2 h7 h8 hb0
 go_upto_region 2 with (fail)
 obtain ⟨b2, hb2⟩ : ∃ b2, w2.heap.size = b2 := ⟨_, rfl⟩
 obtain ⟨w3, hw3⟩ : ∃ w3, w2.alloc (.cells #[.string x.f0, .slice AP x.f1.length cP, .int .i64 x.f2, .slice AR x.f3.length cR, .slice AB Rs.length cB] 74 (0, 0)) = w3 := ⟨_, rfl⟩
 have B3 : Below w2.heap.size w2 w3 := by rw [← hw3]; exact below_alloc (Below.refl _ w2) _
 have h9 : w3.heap[b2]? = some (.cells #[.string x.f0, .slice AP x.f1.length cP, .int .i64 x.f2, .slice AR x.f3.length cR, .slice AB Rs.length cB] 74 (0, 0)) := by rw [← hw3, ← hb2]; exact heap_alloc_new w2 _
 rw [hw3, hb2]
 clear hw3 hb2 k0 k1 k2 k3 k4 k5 k6 l0 l1 l2 l3 l4 l5 l6
 have g7 := (B3.block _ (blk_lt' hH.out.1)).trans hH.out.1
 have g8 := (B3.block _ (blk_lt' hH.out.2)).trans hH.out.2
 have l0 : w3.cell? ⟨b0 + 1, 0, none⟩ = some (.string x.f0) := cell_at g8 rfl
 have l1 : w3.cell? ⟨b0 + 1, 1, none⟩ = some (.slice EP x.f1.length dP) := cell_at g8 rfl
 have l2 : w3.cell? ⟨b0 + 1, 2, none⟩ = some (.int .i64 x.f2) := cell_at g8 rfl
 have l3 : w3.cell? ⟨b0 + 1, 3, none⟩ = some (.slice ER x.f3.length dR) := cell_at g8 rfl
 have l4 : w3.cell? ⟨b0 + 1, 4, none⟩ = some (.int .i64 x.f4) := cell_at g8 rfl
 have l5 : w3.cell? ⟨b0 + 1, 5, none⟩ = some (.int .i64 x.f5) := cell_at g8 rfl
 have l6 : w3.cell? ⟨b0 + 1, 6, none⟩ = some (.slice EB Rs.length dB) := cell_at g8 rfl
 have hG := Aside0.mk (And.intro g7 (And.intro g8 (And.intro h9 (bl1 hB2.out B3))))
 clear g7 g8 h9 B3
 go_upto_region 3 with (fail)
 obtain ⟨b3, hb3⟩ : ∃ b3, w3.heap.size = b3 := ⟨_, rfl⟩
 obtain ⟨w4, hw4⟩ : ∃ w4, w3.alloc (.cells #[.string x.f0, .slice EP x.f1.length dP, .int .i64 x.f2, .slice ER x.f3.length dR, .slice EB Rs.length dB] 74 (0, 0)) = w4 := ⟨_, rfl⟩
 have B4 : Below w3.heap.size w3 w4 := by rw [← hw4]; exact below_alloc (Below.refl _ w3) _
 have h6 : w4.heap[b3]? = some (.cells #[.string x.f0, .slice EP x.f1.length dP, .int .i64 x.f2, .slice ER x.f3.length dR, .slice EB Rs.length dB] 74 (0, 0)) := by rw [← hw4, ← hb3]; exact heap_alloc_new w3 _
 rw [hw4, hb3]
 clear hw4 hb3 l0 l1 l2 l3 l4 l5 l6
 have g7 := (B4.block _ (blk_lt' hG.out.1)).trans hG.out.1
 have g8 := (B4.block _ (blk_lt' hG.out.2.1)).trans hG.out.2.1
 have g9 := (B4.block _ (blk_lt' hG.out.2.2.1)).trans hG.out.2.2.1
 have k4 : w4.cell? ⟨b0, 4, none⟩ = some (.int .i64 x.f4) := cell_at g7 rfl
 have k5 : w4.cell? ⟨b0, 5, none⟩ = some (.int .i64 x.f5) := cell_at g7 rfl
 have l4 : w4.cell? ⟨b0 + 1, 4, none⟩ = some (.int .i64 x.f4) := cell_at g8 rfl
 have l5 : w4.cell? ⟨b0 + 1, 5, none⟩ = some (.int .i64 x.f5) := cell_at g8 rfl
 have m0 : w4.cell? ⟨b2, 0, none⟩ = some (.string x.f0) := cell_at g9 rfl
 have n0 : w4.cell? ⟨b3, 0, none⟩ = some (.string x.f0) := cell_at h6 rfl
 have m1 : w4.cell? ⟨b2, 1, none⟩ = some (.slice AP x.f1.length cP) := cell_at g9 rfl
 have n1 : w4.cell? ⟨b3, 1, none⟩ = some (.slice EP x.f1.length dP) := cell_at h6 rfl
 have m2 : w4.cell? ⟨b2, 2, none⟩ = some (.int .i64 x.f2) := cell_at g9 rfl
 have n2 : w4.cell? ⟨b3, 2, none⟩ = some (.int .i64 x.f2) := cell_at h6 rfl
 have m3 : w4.cell? ⟨b2, 3, none⟩ = some (.slice AR x.f3.length cR) := cell_at g9 rfl
 have n3 : w4.cell? ⟨b3, 3, none⟩ = some (.slice ER x.f3.length dR) := cell_at h6 rfl
 have m4 : w4.cell? ⟨b2, 4, none⟩ = some (.slice AB Rs.length cB) := cell_at g9 rfl
 have n4 : w4.cell? ⟨b3, 4, none⟩ = some (.slice EB Rs.length dB) := cell_at h6 rfl
 have hB4 := Aside0.mk (bl1 hG.out.2.2.2 B4)
 clear g7 g8 g9 h6 B4 hG hH
 go_wp2_with fail
 refine (hE.out w4 hB4.out).mono ?_
 rintro e w5 ⟨rfl, B5⟩
 have hB5 := Aside0.mk (bl1 hB4.out B5)
 clear B5 k4 k5 l4 l5 m0 m1 m2 m3 m4 n0 n1 n2 n3 n4
 go_wp2
 go_ret
 exact ⟨rfl, hB5.out⟩
end
end Go.Proofs.YtjacphcbiaacnaaDoor
end

section
set_option linter.unusedVariables false
set_option linter.unusedSimpArgs false
set_option linter.unusedSectionVars false
namespace Go.Proofs.YtjacphcbiaacnaaDoor
open Go.RowKit Go.Proofs.YtjacphcbiaacnaaDoorW.PrintWords Go.Proofs.YtjacphcbiaacnaaDoorW.PrintMore Go.Proofs.YtjacphcbiaacnaaDoorW.PrintLast Go.Proofs.YtjacphcbiaacnaaDoor.PDigraphTells Mem Sc
theorem box_tw {w w2 : World} {c0 c1 : Array Value} {t0 t1 : Nat} (h : (w.alloc (.cells c0 t0 (0, 0))).alloc (.cells c1 t1 (0, 0)) = w2) {b0 : Nat} (hb : w.heap.size = b0) : Below w.heap.size w w2 ∧ w2.heap[b0]? = some (.cells c0 t0 (0, 0)) ∧ w2.heap[b0 + 1]? = some (.cells c1 t1 (0, 0)) := by
 obtain ⟨w1, h1⟩ : ∃ w1, w.alloc (.cells c0 t0 (0, 0)) = w1 := ⟨_, rfl⟩
 rw [h1] at h
 have s1 : w1.heap.size = b0 + 1 := by rw [← h1]; simp [hb]
 have e1 : w1.heap[b0]? = some (.cells c0 t0 (0, 0)) := by rw [← h1, ← hb]; exact heap_alloc_new w _
 have B1 : Below w.heap.size w w1 := by rw [← h1]; exact below_alloc (Below.refl _ w) _
 have e2 : w2.heap[b0 + 1]? = some (.cells c1 t1 (0, 0)) := by rw [← h, ← s1]; exact heap_alloc_new w1 _
 have B2 : Below w1.heap.size w1 w2 := by rw [← h]; exact below_alloc (Below.refl _ w1) _
 exact ⟨bl1 B1 B2, (B2.block _ (blk_lt' e1)).trans e1, e2⟩
set_option maxRecDepth 100000 in
set_option maxHeartbeats 8000000 in
theorem sff_any {w : World} {W R : Int} {AL : Option Addr} {cL : Nat} {Lat : List Int} {x : S55} {AP : Option Addr} {cP : Nat} {AR : Option Addr} {cR : Nat} {AB : Option Addr} {cB : Nat} (gL : Kd.C (Kd.int .i64) w AL Lat.length Lat) (hL : Lat.length ≤ cL) (h : RF w x x.f6 AP cP AR cR AB cB) (hz : szF x) (hDN : DN w) :
  Calls Tryd.prog 6 #[.agg #[.int .i64 W, .int .i64 R, .slice AL Lat.length cL], .agg #[.string x.f0, .slice AP x.f1.length cP, .int .i64 x.f2, .slice AR x.f3.length cR, .int .i64 x.f4, .int .i64 x.f5, .slice AB x.f6.length cB]] w fun e w' => e = .returned (.bool true) ∧ Below w.heap.size w w' := by
 have h0 : 0 < w.heap.size := hDN.pos
 have hD := Aside0.mk (fun (W1 : World) (hb : Below w.heap.size w W1) => hDN.below hb h0)
 have hX := Aside0.mk (And.intro gL (And.intro hL (And.intro h hz)))
 have hn6 : x.f6.length ≤ 140737488355328 := by have := hz.2.2.1; omega
 clear gL hL h hz hDN h0
 go_enter Tryd.func6, Tryd.ntmps6
 go_upto_region 1 with (fail)
 obtain ⟨w2, hw2⟩ : ∃ w2, (w.alloc (.cells #[.int .i64 W, .int .i64 R, .slice AL Lat.length cL] 24 (0, 0))).alloc (.cells #[.string x.f0, .slice AP x.f1.length cP, .int .i64 x.f2, .slice AR x.f3.length cR, .int .i64 x.f4, .int .i64 x.f5, .slice AB x.f6.length cB] 55 (0, 0)) = w2 := ⟨_, rfl⟩
 obtain ⟨b0, hb0⟩ : ∃ b0, w.heap.size = b0 := ⟨_, rfl⟩
 obtain ⟨B2, h7, h8⟩ := box_tw hw2 hb0
 rw [hw2, hb0]
 clear hw2 hb0
 have hCl : Aside0 (∀ W1 : World, Below w2.heap.size w2 W1 → W1.cell? ⟨b0, 0, none⟩ = some (.int .i64 W) ∧ W1.cell? ⟨b0, 1, none⟩ = some (.int .i64 R) ∧ W1.cell? ⟨b0, 2, none⟩ = some (.slice AL Lat.length cL) ∧ W1.cell? ⟨b0 + 1, 0, none⟩ = some (.string x.f0) ∧ W1.cell? ⟨b0 + 1, 1, none⟩ = some (.slice AP x.f1.length cP) ∧ W1.cell? ⟨b0 + 1, 2, none⟩ = some (.int .i64 x.f2) ∧ W1.cell? ⟨b0 + 1, 3, none⟩ = some (.slice AR x.f3.length cR) ∧ W1.cell? ⟨b0 + 1, 4, none⟩ = some (.int .i64 x.f4) ∧ W1.cell? ⟨b0 + 1, 5, none⟩ = some (.int .i64 x.f5) ∧ W1.cell? ⟨b0 + 1, 6, none⟩ = some (.slice AB x.f6.length cB)) := ⟨fun W1 e1 => by
  have z1 := (e1.block _ (blk_lt' h7)).trans h7
  have z2 := (e1.block _ (blk_lt' h8)).trans h8
  exact ⟨cell_at z1 rfl, cell_at z1 rfl, cell_at z1 rfl, cell_at z2 rfl, cell_at z2 rfl, cell_at z2 rfl, cell_at z2 rfl, cell_at z2 rfl, cell_at z2 rfl, cell_at z2 rfl⟩⟩
 have hB2 := Aside0.mk B2
 clear B2 h7 h8
 obtain ⟨k0, k1, k2, l0, l1, l2, l3, l4, l5, l6⟩ := hCl.out w2 (Below.refl _ _)
 by_cases c1 : 20 < x.f6.length
 ·have c1b : decide ((20 : Int) < (x.f6.length : Int)) = true := decide_eq_true (by omega)
  have c1c : (20 : Int) < (x.f6.length : Int) := by omega
  clear c1
  go_wp2_with fail
  refine (awake_any _ (hD.out _ hB2.out)).mono ?_
  rintro e w4 ⟨rfl, B4⟩
  have hZ := Aside0.mk (bl1 hB2.out B4)
  clear B4 c1b c1c k0 k1 k2 l0 l1 l2 l3 l4 l5 l6
  go_wp2
  go_ret
  exact ⟨rfl, hZ.out⟩
 have c1b : decide ((20 : Int) < (x.f6.length : Int)) = false := decide_eq_false (by omega)
 have c1c : ¬ (20 : Int) < (x.f6.length : Int) := by omega
 by_cases c2 : 200 < x.f3.length
 ·have c2b : decide ((200 : Int) < (x.f3.length : Int)) = true := decide_eq_true (by omega)
  have c2c : (200 : Int) < (x.f3.length : Int) := by omega
  clear c1 c2
  go_wp2_with fail
  refine (awake_any _ (hD.out _ hB2.out)).mono ?_
  rintro e w4 ⟨rfl, B4⟩
  have hZ := Aside0.mk (bl1 hB2.out B4)
  clear B4 c1b c1c c2b c2c k0 k1 k2 l0 l1 l2 l3 l4 l5 l6
  go_wp2
  go_ret
  exact ⟨rfl, hZ.out⟩
 have c2b : decide ((200 : Int) < (x.f3.length : Int)) = false := decide_eq_false (by omega)
 have c2c : ¬ (200 : Int) < (x.f3.length : Int) := by omega
 by_cases c3 : 100 < Lat.length
 ·have c3b : decide ((100 : Int) < (Lat.length : Int)) = true := decide_eq_true (by omega)
  have c3c : (100 : Int) < (Lat.length : Int) := by omega
  clear c1 c2 c3
  go_wp2_with fail
  refine (awake_any _ (hD.out _ hB2.out)).mono ?_
  rintro e w4 ⟨rfl, B4⟩
  have hZ := Aside0.mk (bl1 hB2.out B4)
  clear B4 c1b c1c c2b c2c c3b c3c k0 k1 k2 l0 l1 l2 l3 l4 l5 l6
  go_wp2
  go_ret
  exact ⟨rfl, hZ.out⟩
 have c3b : decide ((100 : Int) < (Lat.length : Int)) = false := decide_eq_false (by omega)
 have c3c : ¬ (100 : Int) < (Lat.length : Int) := by omega
 have hLl : Aside0 (Lat.length < 1000000000) := ⟨by omega⟩
 have hI0 : Aside0 (Below w2.heap.size w2 w2 ∧ ∀ (j : Nat) (b : S31), j < 0 → x.f6[j]? = some b → sml b.f1) := ⟨Below.refl _ _, fun j b hj => by omega⟩
 go_wp2_with fail
 clear c1 c2 c3 c1b c1c c2b c2c c3b c3c k0 k1 k2 l0 l1 l2 l3 l4 l5 l6
 go_loopg [27] x.f6.length (fun z v wi => ∃ i : Nat, i + z = x.f6.length ∧ v = .int .i64 (i : Int) ∧ Aside0 (Below w2.heap.size w2 wi ∧ ∀ (j : Nat) (b : S31), j < i → x.f6[j]? = some b → sml b.f1))
 case atStart => exact ⟨0, by omega, rfl, hI0⟩
 case round =>
  obtain ⟨i, hi, rfl, hJ⟩ := hrel
  clear hI0
  by_cases hlt : i < x.f6.length
  ·have hlti : (i : Int) < x.f6.length := by omega
   have hi0 : (0 : Int) ≤ (i : Int) := by omega
   obtain ⟨gk1, rfl⟩ : ∃ z, gk = z + 1 := ⟨gk - 1, by omega⟩
   have hi1 : i + 1 + gk1 = x.f6.length := by omega
   have hgk1 : gk1 < gk1 + 1 := by omega
   have hBw := hB2.out.trans (hJ.out.1.mono hB2.out.size)
   obtain ⟨ad, F0, F0c, F1, F1c, F3, F3c, F4, F4c, F5, F5c, eA, s0, s1, s2, s3, s4, s5, s6, m0, n0, m1, n1, m3, n3, m4, n4, m5, n5⟩ := at_T31 (Kd.C_below hX.out.2.2.1.gB hBw) (i : Int) hi0 hlti
   subst eA
   rw [Int.toNat_natCast] at s0 s1 s2 s3 s4 s5 s6
   have hxi : x.f6[i]? = some (rd_T31 x.f6 (i : Int)) := by
    rw [List.getElem?_eq_getElem hlt]
    simp [rd_T31, List.getD_eq_getElem?_getD, hlt]
   obtain ⟨xb, hxb⟩ : ∃ xb, rd_T31 x.f6 (i : Int) = xb := ⟨_, rfl⟩
   rw [hxb] at s0 s1 s2 s3 s4 s5 s6 m0 n0 m1 n1 m3 n3 m4 n4 m5 n5 hxi
   obtain ⟨lb, hlb, hlg⟩ := large_any (w := wr) (AL := AL) (cL := cL) (Lat := Lat) (AP := F0) (cP := F0c) (P := xb.f0) (AI := F1) (cI := F1c) (B := xb.f1) (A3 := F3) (c3 := F3c) (t1 := xb.f2.f1) (A4 := F4) (c4 := F4c) (t2 := xb.f2.f2) (A5 := F5) (c5 := F5c) (t3 := xb.f2.f3) ⟨Kd.C_below hX.out.1 hBw, hX.out.2.1, n0, m0, n1, m1, n3, m3, n4, m4, n5, m5⟩ xb.f2.f0 xb.f2.f4
   replace hlb := Aside0.mk hlb
   replace hlg := Aside0.mk hlg
   replace hxi := Aside0.mk hxi
   clear m0 n0 m1 n1 m3 n3 m4 n4 m5 n5 hBw hxb
   go_upto_region 6 with (fail)
   obtain ⟨wg, hwg⟩ : ∃ wg, wr.alloc (.cells #[.slice F0 xb.f0.length F0c, .slice F1 xb.f1.length F1c, .int .i64 xb.f2.f0, .slice F3 xb.f2.f1.length F3c, .slice F4 xb.f2.f2.length F4c, .slice F5 xb.f2.f3.length F5c, .int .i64 xb.f2.f4] 31 (0, 0)) = wg := ⟨_, rfl⟩
   obtain ⟨g9, hg9⟩ : ∃ g9, wr.heap.size = g9 := ⟨_, rfl⟩
   have Bg : Below wr.heap.size wr wg := by rw [← hwg]; exact below_alloc (Below.refl _ wr) _
   have h9 : wg.heap[g9]? = some (.cells #[.slice F0 xb.f0.length F0c, .slice F1 xb.f1.length F1c, .int .i64 xb.f2.f0, .slice F3 xb.f2.f1.length F3c, .slice F4 xb.f2.f2.length F4c, .slice F5 xb.f2.f3.length F5c, .int .i64 xb.f2.f4] 31 (0, 0)) := by rw [← hwg, ← hg9]; exact heap_alloc_new wr _
   rw [hwg, hg9]
   clear s0 s1 s2 s3 s4 s5 s6 hwg hg9
   have y0 : wg.cell? ⟨g9, 0, none⟩ = some (.slice F0 xb.f0.length F0c) := cell_at h9 rfl
   have y1 : wg.cell? ⟨g9, 1, none⟩ = some (.slice F1 xb.f1.length F1c) := cell_at h9 rfl
   have y2 : wg.cell? ⟨g9, 2, none⟩ = some (.int .i64 xb.f2.f0) := cell_at h9 rfl
   have y3 : wg.cell? ⟨g9, 3, none⟩ = some (.slice F3 xb.f2.f1.length F3c) := cell_at h9 rfl
   have y4 : wg.cell? ⟨g9, 4, none⟩ = some (.slice F4 xb.f2.f2.length F4c) := cell_at h9 rfl
   have y5 : wg.cell? ⟨g9, 5, none⟩ = some (.slice F5 xb.f2.f3.length F5c) := cell_at h9 rfl
   have y6 : wg.cell? ⟨g9, 6, none⟩ = some (.int .i64 xb.f2.f4) := cell_at h9 rfl
   replace Bg := Aside0.mk Bg
   clear h9
   go_wp2_with fail
   refine (hlg.out wg Bg.out).mono ?_
   rintro e w5 ⟨rfl, B5⟩
   have hB5 := Aside0.mk (bl1 hJ.out.1 (bl1 Bg.out B5))
   clear B5 y0 y1 y2 y3 y4 y5 y6 Bg hlg
   cases lb with
   | true =>
    have hB6 := Aside0.mk (hB2.out.trans (hB5.out.mono hB2.out.size))
    go_wp2_with fail
    refine (awake_any _ (hD.out _ hB6.out)).mono ?_
    rintro e w4 ⟨rfl, B4⟩
    have hZ := Aside0.mk (bl1 hB6.out B4)
    clear B4
    go_wp2
    go_ret
    exact ⟨rfl, hZ.out⟩
   | false =>
    have hI9 : Aside0 (Below w2.heap.size w2 w5 ∧ ∀ (j : Nat) (b : S31), j < i + 1 → x.f6[j]? = some b → sml b.f1) := ⟨hB5.out, fun j b hj hb => by
     by_cases e : j < i
     ·exact hJ.out.2 j b e hb
     ·obtain rfl : j = i := by omega
      have h9 := hxi.out
      rw [hb] at h9
      injection h9 with h9
      rw [h9]
      exact hlb.out (by trivial)⟩
    clear hB5 hJ hxi hlb
    go_wp2_with fail
    go_roundg gk1
    case rel => exact ⟨i + 1, hi1, by go_num, hI9⟩
    case measure => exact hgk1
  ·have hie : i = x.f6.length := by omega
   subst hie
   have hBr := Aside0.mk (hB2.out.trans (hJ.out.1.mono hB2.out.size))
   have hsm : Aside0 (∀ b ∈ x.f6, sml b.f1) := ⟨fun b hb => by
    obtain ⟨j, hj, rfl⟩ := List.mem_iff_getElem.1 hb
    exact hJ.out.2 j _ hj (List.getElem?_eq_getElem hj)⟩
   obtain ⟨k0, k1, k2, l0, l1, l2, l3, l4, l5, l6⟩ := hCl.out wr hJ.out.1
   have hBelow : ∀ W1 : World, Below wr.heap.size wr W1 → Below w.heap.size w W1 := fun W1 e1 => hBr.out.trans (e1.mono hBr.out.size)
   replace hBelow := Aside0.mk hBelow
   go_upto_region 9 with (fail)
   refine Held.begin_ (S := fun W1 => W1.cell? ⟨b0, 0, none⟩ = some (.int .i64 W) ∧ W1.cell? ⟨b0, 1, none⟩ = some (.int .i64 R) ∧ W1.cell? ⟨b0, 2, none⟩ = some (.slice AL Lat.length cL) ∧ W1.cell? ⟨b0 + 1, 0, none⟩ = some (.string x.f0) ∧ W1.cell? ⟨b0 + 1, 1, none⟩ = some (.slice AP x.f1.length cP) ∧ W1.cell? ⟨b0 + 1, 2, none⟩ = some (.int .i64 x.f2) ∧ W1.cell? ⟨b0 + 1, 3, none⟩ = some (.slice AR x.f3.length cR) ∧ W1.cell? ⟨b0 + 1, 4, none⟩ = some (.int .i64 x.f4) ∧ W1.cell? ⟨b0 + 1, 5, none⟩ = some (.int .i64 x.f5) ∧ W1.cell? ⟨b0 + 1, 6, none⟩ = some (.slice AB x.f6.length cB)) 11 (by kernel_rfl) (by kernel_rfl) ?_ (fun hHeld => ?_)
   ·exact ⟨k0, k1, k2, l0, l1, l2, l3, l4, l5, l6⟩
   simp only [List.length_cons, List.length_nil, Nat.reduceAdd, List.replicate, Array.replicate]
   refine Held.step_ 0 rfl rfl (by kernel_rfl) (fun K hK => ?_)
   go_simp
   go_at_call 8
   with_reducible refine (awake_any _ (hD.out _ (hBelow.out _ (below_drew (Below.refl _ _))))).mono ?_
   rintro e' wa ⟨rfl, Bx0⟩
   have Bx : Below wr.heap.size wr wa := (below_drew (Below.refl _ wr)).trans Bx0
   have f1 := hCl.out wa (bl1 hJ.out.1 Bx)
   have Ba := Aside0.mk Bx
   clear Bx Bx0
   go_wp2_with fail
   refine hK.out _ _ f1 (fun hHeld2 => ?_)
   clear hK K
   try simp only [Act.put, List.setIfInBounds_toArray, List.set_cons_zero, List.set_cons_succ]
   refine Held.take_ (v := ?vv1246201) 1 rfl rfl (by kernel_rfl) (by kernel_rfl) (fun _ _ _ h => h) (by assumption) (Or.inl ⟨by rfl, ?hy1246201⟩) ?_
   case hy1246201 => intro w hSw; (try dsimp only at hSw); (go_simp <;> with_reducible rfl)
   try simp only [Act.put, List.setIfInBounds_toArray, List.set_cons_zero, List.set_cons_succ]
   refine Held.take_ (v := ?vv1246202) 2 rfl rfl (by kernel_rfl) (by kernel_rfl) (fun _ _ _ h => h) (by assumption) (Or.inl ⟨by rfl, ?hy1246202⟩) ?_
   case hy1246202 => intro w hSw; (try dsimp only at hSw); (go_simp <;> with_reducible rfl)
   try simp only [Act.put, List.setIfInBounds_toArray, List.set_cons_zero, List.set_cons_succ]
   refine Held.take_ (v := ?vv1246203) 3 rfl rfl (by kernel_rfl) (by kernel_rfl) (fun _ _ _ h => h) (by assumption) (Or.inl ⟨by rfl, ?hy1246203⟩) ?_
   case hy1246203 => intro w hSw; (try dsimp only at hSw); (go_simp <;> with_reducible rfl)
   try simp only [Act.put, List.setIfInBounds_toArray, List.set_cons_zero, List.set_cons_succ]
   refine Held.take_ (v := ?vv1246205) 5 rfl rfl (by kernel_rfl) (by kernel_rfl) (fun _ _ _ h => h) (by assumption) (Or.inl ⟨by rfl, ?hy1246205⟩) ?_
   case hy1246205 => intro w hSw; (try dsimp only at hSw); (go_simp <;> with_reducible rfl)
   try simp only [Act.put, List.setIfInBounds_toArray, List.set_cons_zero, List.set_cons_succ]
   refine Held.take_ (v := ?vv1246207) 7 rfl rfl (by kernel_rfl) (by kernel_rfl) (fun _ _ _ h => h) (by assumption) (Or.inl ⟨by rfl, ?hy1246207⟩) ?_
   case hy1246207 => intro w hSw; (try dsimp only at hSw); (go_simp <;> with_reducible rfl)
   try simp only [Act.put, List.setIfInBounds_toArray, List.set_cons_zero, List.set_cons_succ]
   refine Held.step_ 4 rfl rfl (by kernel_rfl) (fun K hK => ?_)
   go_simp
   go_at_call 24
   with_reducible refine (sfn_any (W := W) (R := R) (x := x) (Kd.C_below hX.out.1 (hBelow.out _ Ba.out)) hX.out.2.1 hLl.out (Kd.C_below hX.out.2.2.1.gP (hBelow.out _ Ba.out)) hX.out.2.2.1.hP (Kd.C_below hX.out.2.2.1.gR (hBelow.out _ Ba.out)) hX.out.2.2.1.hR (Kd.C_below hX.out.2.2.1.gB (hBelow.out _ Ba.out)) hX.out.2.2.1.hB hX.out.2.2.2 hsm.out (hD.out _ (hBelow.out _ Ba.out))).mono ?_
   rintro e' wb ⟨Rs, Q1, q1, Q3, q3, Q6, q6, hI1, rfl, v1, v3, v6, r1, r3, r6, Bx⟩
   have Bb := Aside0.mk (bl1 Ba.out Bx)
   have hR1 := Aside0.mk (And.intro hI1 (show RF wb x Rs Q1 q1 Q3 q3 Q6 q6 from ⟨v1, r1, v3, r3, v6, r6⟩))
   have f2 := hCl.out wb (bl1 hJ.out.1 Bb.out)
   clear Bx hI1 v1 v3 v6 r1 r3 r6
   go_wp2_with fail
   refine hK.out _ _ f2 (fun hHeld3 => ?_)
   clear hK K
   try simp only [Act.put, List.setIfInBounds_toArray, List.set_cons_zero, List.set_cons_succ]
   refine Held.step_ 6 rfl rfl (by kernel_rfl) (fun K hK => ?_)
   go_simp
   go_at_call 11
   with_reducible refine (model_any W R AL Lat.length cL _).mono ?_
   rintro e' wc ⟨rfl, Bx⟩
   have Bc := Aside0.mk (And.intro Bx (bl1 Bb.out Bx))
   have f3 := hCl.out wc (bl1 hJ.out.1 Bc.out.2)
   clear Bx
   go_wp2_with fail
   refine hK.out _ _ f3 (fun hHeld4 => ?_)
   clear hK K
   try simp only [Act.put, List.setIfInBounds_toArray, List.set_cons_zero, List.set_cons_succ]
   refine Held.step_ 8 rfl rfl (by kernel_rfl) (fun K hK => ?_)
   go_simp
   go_at_call 25
   with_reducible refine (rfn_any (W := W) (R := R) (x := x) (Kd.C_below hX.out.1 (hBelow.out _ Bc.out.2)) hX.out.2.1 hLl.out (Kd.C_below hX.out.2.2.1.gP (hBelow.out _ Bc.out.2)) hX.out.2.2.1.hP (Kd.C_below hX.out.2.2.1.gR (hBelow.out _ Bc.out.2)) hX.out.2.2.1.hR (Kd.C_below hX.out.2.2.1.gB (hBelow.out _ Bc.out.2)) hX.out.2.2.1.hB hX.out.2.2.2 hsm.out).mono ?_
   rintro e' wd ⟨Rs', P1, p1, P3, p3, P6, p6, hI2, rfl, v1, v3, v6, r1, r3, r6, Bx⟩
   obtain rfl := hR1.out.1.uniq hI2
   have Bd := Aside0.mk (bl1 Bc.out.2 Bx)
   have hE := Aside0.mk (req_any (hR1.out.2.below (bl1 Bc.out.1 Bx)) (show RF wd x Rs P1 p1 P3 p3 P6 p6 from ⟨v1, r1, v3, r3, v6, r6⟩) hX.out.2.2.2.1 hX.out.2.2.2.2.1 (by rw [hR1.out.1.len]; exact hn6) (hR1.out.1.sz hX.out.2.2.2.2.2.2 hsm.out))
   have f4 := hCl.out wd (bl1 hJ.out.1 Bd.out)
   clear Bx hI2 v1 v3 v6 r1 r3 r6
   go_wp2_with fail
   refine hK.out _ _ f4 (fun hHeld5 => ?_)
   clear hK K
   try simp only [Act.put, List.setIfInBounds_toArray, List.set_cons_zero, List.set_cons_succ]
   refine Held.step_ 9 rfl rfl (by kernel_rfl) (fun K hK => ?_)
   go_simp
   go_at_call 23
   with_reducible refine hE.out.mono ?_
   rintro e' we ⟨rfl, Bx⟩
   have Be := Aside0.mk (hBelow.out _ (bl1 Bd.out Bx))
   have f5 := hCl.out we (bl1 hJ.out.1 (bl1 Bd.out Bx))
   clear Bx
   go_wp2_with fail
   refine hK.out _ _ f5 (fun hHeld6 => ?_)
   clear hK K
   try simp only [Act.put, List.setIfInBounds_toArray, List.set_cons_zero, List.set_cons_succ]
   refine Held.take_ (v := ?vv1575110) 10 rfl rfl (by kernel_rfl) (by kernel_rfl) (fun _ _ _ h => h) (by assumption) (Or.inl ⟨by rfl, ?hy1575110⟩) ?_
   case hy1575110 => intro w hSw; (try dsimp only at hSw); (go_simp <;> with_reducible rfl)
   try simp only [Act.put, List.setIfInBounds_toArray, List.set_cons_zero, List.set_cons_succ]
   refine Held.rest_ (by kernel_rfl) ?_
   simp only [List.drop_succ_cons, List.drop_zero]
   clear hHeld hHeld2 hHeld3 hHeld4 hHeld5 hHeld6 f1 f2 f3 f4 f5 hE hR1 Ba Bb Bc Bd k0 k1 k2 l0 l1 l2 l3 l4 l5 l6
   go_wp2
   go_ret
   exact ⟨rfl, Be.out⟩
end Go.Proofs.YtjacphcbiaacnaaDoor
end

section
set_option linter.unusedVariables false
set_option linter.unusedSimpArgs false
namespace Go.Proofs.YtjacphcbiaacnaaDoor
open Go.RowKit Go.Proofs.YtjacphcbiaacnaaDoorW.PrintWords Go.Proofs.YtjacphcbiaacnaaDoorW.PrintMore Go.Proofs.YtjacphcbiaacnaaDoorW.PrintLast Go.Proofs.YtjacphcbiaacnaaDoor.PDigraphTells Mem Sc
theorem by_int : Tryd.prog.bytesOf 3 = 8 := by kernel_rfl
theorem by_int64 : Tryd.prog.bytesOf 2 = 8 := by kernel_rfl
theorem by_type : Tryd.prog.bytesOf 46 = 8 := by kernel_rfl
theorem by_block : Tryd.prog.bytesOf 31 = 136 := by kernel_rfl
theorem by_instr : Tryd.prog.bytesOf 48 = 80 := by kernel_rfl
theorem by_edge : Tryd.prog.bytesOf 98 = 32 := by kernel_rfl
theorem szF_good (x : S55) (g : good55 x) : szF x := by
 unfold good55 at g
 obtain ⟨_, ⟨g1, _⟩, _, ⟨g3, _⟩, _, _, ⟨g6, gb⟩⟩ := g
 rw [by_int] at g1
 rw [by_type] at g3
 rw [by_block] at g6
 refine ⟨by omega, by omega, by omega, fun b hb => ?_⟩
 obtain ⟨⟨a0, _⟩, ⟨a1, ai⟩, ⟨_, ⟨a2, _⟩, ⟨a3, _⟩, ⟨a4, ae⟩, _⟩⟩ := gb b hb
 rw [by_int] at a0 a2
 rw [by_instr] at a1
 rw [by_int64] at a3
 rw [by_edge] at a4
 refine ⟨by omega, by omega, fun i hi => ?_, by omega, by omega, by omega, fun e he => ?_⟩
 ·have h5 := (ai i hi).2.2.2.1.1
  rw [by_int] at h5
  omega
 ·have h5 := (ae e he).2.1
  rw [by_int] at h5
  omega
theorem sf_walk (cs0 : Array Value) (x0 : S24) (cs1 : Array Value) (x1 : S55) (W : World) (K0 : k24.K W x0 cs0.toList) (g0 : good24 x0) (K1 : k55.K W x1 cs1.toList) (g1 : good55 x1) (hDN : DN W) :
  Calls Tryd.prog 6 #[.agg cs0, .agg cs1] W fun e w' => e = .returned (.bool true) ∧ Below W.heap.size W w' := by
 obtain ⟨A2, c2, e0, l2, q2⟩ := op24_open K0
 obtain ⟨B1, d1, B3, d3, B6, d6, e1, m1, r1, m3, r3, m6, r6⟩ := op55_open K1
 rw [show cs0 = _ from congrArg List.toArray e0, show cs1 = _ from congrArg List.toArray e1]
 exact sff_any q2 l2 ⟨m1, r1, m3, r3, m6, r6⟩ (szF_good x1 g1) hDN
end Go.Proofs.YtjacphcbiaacnaaDoor
end

