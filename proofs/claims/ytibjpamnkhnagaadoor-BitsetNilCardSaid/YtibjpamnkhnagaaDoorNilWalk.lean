/- BitsetNil: the walk. -/
import Derived.Test.YtibjpamnkhnagaaDoorSetM
set_option linter.unusedVariables false
set_option linter.unusedSimpArgs false
namespace Go.Proofs.YtibjpamnkhnagaaDoor
open Go.RowKit Go.Proofs.YtibjpamnkhnagaaDoorW.PrintWords Mem Bit

/-- The law's memory: a set that New did not make at z, the set v, the list of the two pointers at B. -/
structure NW (w0 W : World) (z : Nat) (v : Option Addr) (o : Option (List Bool)) (B : Nat) : Prop where
  ex : ∃ az bz av bv, w0.heap.size ≤ az ∧ bz ≤ av ∧ bv ≤ B ∧ az ≤ bz ∧ av ≤ bv ∧ PS W (rng az bz) (some ⟨z, 0, none⟩) none ∧ PS W (rng av bv) v o
  row : W.heap[B]? = some (.cells #[.pointer none, .pointer (some ⟨z, 0, none⟩)] 24 (0, 0))
  below : Below w0.heap.size w0 W
  db : DB w0
  len : lenO o ≤ 65536
section
variable {w0 W W' : World} {z B : Nat} {v x : Option Addr} {o : Option (List Bool)}
theorem NW.step (h : NW w0 W z v o B) (hb : Below W.heap.size W W') : NW w0 W' z v o B := by
  obtain ⟨az, bz, av, bv, h1, h2, h3, h4, h5, p1, p2⟩ := h.ex
  exact ⟨⟨az, bz, av, bv, h1, h2, h3, h4, h5, p1.step (fun k _ hk => hb.block k hk), p2.step (fun k _ hk => hb.block k hk)⟩, (hb.block B (blk_lt' h.row)).trans h.row, h.below.trans (hb.mono h.below.size), h.db, h.len⟩
theorem NW.drewN (h : NW w0 W z v o B) (q : Nat) : NW w0 (W.drewN q) z v o B := h.step (pw_below_drewN (Below.refl _ _) q)
theorem NW.alloc (h : NW w0 W z v o B) (y : Obj) : NW w0 (W.alloc y) z v o B := h.step (below_alloc (Below.refl _ _) y)
theorem NW.dbW (h : NW w0 W z v o B) : DB W := h.db.below h.below
theorem NW.px (h : NW w0 W z v o B) (hx : x = none ∨ x = some ⟨z, 0, none⟩) : PS W (fun k => k < W.heap.size) x none := by
  rcases hx with rfl | rfl
  · exact PS.none_ _ _
  · obtain ⟨az, bz, av, bv, h1, h2, h3, h4, h5, p1, p2⟩ := h.ex
    have := blk_lt' h.row
    exact p1.mono (fun k hk => by have := hk.2; omega)
theorem NW.pv (h : NW w0 W z v o B) : PS W (fun k => k < W.heap.size) v o := by
  obtain ⟨az, bz, av, bv, h1, h2, h3, h4, h5, p1, p2⟩ := h.ex
  have := blk_lt' h.row
  exact p2.mono (fun k hk => by have := hk.2; omega)
theorem NW.onx {Pr : Ending → Prop} {f : FuncId} {args : Array Value} (h : NW w0 W z v o B) (hx : x = none ∨ x = some ⟨z, 0, none⟩)
    (hc : ∀ ok ok2, PS W ok x none → PS W ok2 v o → (∀ k, ok2 k → ¬ ok k) → Calls Tryd.prog f args W fun e w' => Pr e ∧ PS w' ok x none ∧ Kp ok W w') :
    Calls Tryd.prog f args W fun e w' => Pr e ∧ NW w0 w' z v o B := by
  obtain ⟨az, bz, av, bv, h1, h2, h3, h4, h5, p1, p2⟩ := h.ex
  have hB := blk_lt' h.row
  rcases hx with rfl | rfl
  · refine (hc (fun _ => False) _ (PS.none_ _ _) p2 (fun _ _ h => h)).mono ?_
    rintro e w' ⟨he, _, hk⟩
    exact ⟨he, h.step hk.none_below⟩
  · refine (hc _ _ p1 p2 (fun k hk hk' => by have := hk.1; have := hk'.2; omega)).mono ?_
    rintro e w' ⟨he, hp, hk⟩
    exact ⟨he, ⟨az, bz, av, bv, h1, h2, h3, h4, h5, hp, p2.kp hk (fun k hk hk' => by have := hk.1; have := hk'.2; omega)⟩, hk.blk h.row (fun h' => by have := h'.2; omega), h.below.trans (hk.belowB (fun k hk => by have := hk.1; omega) h.below.size), h.db, h.len⟩
theorem NW.onv {Pr : Ending → Prop} {f : FuncId} {args : Array Value} (h : NW w0 W z v o B) (hx : x = none ∨ x = some ⟨z, 0, none⟩)
    (hc : ∀ ok ok2, PS W ok v o → PS W ok2 x none → (∀ k, ok2 k → ¬ ok k) → Calls Tryd.prog f args W fun e w' => Pr e ∧ PS w' ok v o ∧ Kp ok W w') :
    Calls Tryd.prog f args W fun e w' => Pr e ∧ NW w0 w' z v o B := by
  obtain ⟨az, bz, av, bv, h1, h2, h3, h4, h5, p1, p2⟩ := h.ex
  have hB := blk_lt' h.row
  have hpx : PS W (rng az bz) x none := by
    rcases hx with rfl | rfl
    · exact PS.none_ _ _
    · exact p1
  refine (hc _ _ p2 hpx (fun k hk hk' => by have := hk.2; have := hk'.1; omega)).mono ?_
  rintro e w' ⟨he, hp, hk⟩
  exact ⟨he, ⟨az, bz, av, bv, h1, h2, h3, h4, h5, p1.kp hk (fun k hk hk' => by have := hk.2; have := hk'.1; omega), hp⟩, hk.blk h.row (fun h' => by have := h'.2; omega), h.below.trans (hk.belowB (fun k hk => by have := hk.1; omega) h.below.size), h.db, h.len⟩
end
theorem clone_none (v : Option Addr) (ok : Nat → Prop) (w : World) (h : PS w ok v none) : Calls Tryd.prog 9 #[.pointer v] w fun e w' => e = .returned (.pointer none) ∧ w = w' := clone_no v w h.vs

set_option maxRecDepth 100000 in
theorem nil_early (n i : Int) (A : Option Addr) (la ca : Nat) (w : World) (hD : DB w) (he : 2000 < n ∨ (200 : Int) < la) :
    Calls Tryd.prog 6 #[.int .i64 n, .int .i64 i, .slice A la ca] w fun e w' => e = .returned (.bool true) ∧ Below w.heap.size w w' := by
  have hD' := Aside0.mk hD
  clear hD
  by_cases h2 : 2000 < n
  · clear he
    go_enter Tryd.func6, Tryd.ntmps6
    go_wp2_with (go_at_call 7; refine (awake_any _ hD'.out).mono ?_; rintro e w1 ⟨rfl, hb1⟩)
    go_ret
    exact ⟨rfl, hb1⟩
  · have g2 : n ≤ 2000 := by omega
    have h3 : (200 : Int) < la := by omega
    clear he
    go_enter Tryd.func6, Tryd.ntmps6
    go_wp2_with (go_at_call 7; refine (awake_any _ hD'.out).mono ?_; rintro e w1 ⟨rfl, hb1⟩)
    go_ret
    exact ⟨rfl, hb1⟩

theorem lenO_of (n : Int) (l : List Int) : lenO (ofO n l) ≤ 65536 := by
  by_cases h : n < 0 ∨ 65536 < n
  · have : ofO n l = none := by
      unfold ofO newO
      rw [if_pos h]
      unfold addAll
      induction l with
      | nil => rfl
      | cons a l ih => exact ih
    rw [this]
    simp [lenO]
  · obtain ⟨m, rfl⟩ := Int.eq_ofNat_of_zero_le (show 0 ≤ n by omega)
    rw [ofO_some m l (by omega)]
    show (setL m l).length ≤ _
    rw [setL_length]
    omega

theorem toBelow {w w' : World} (h : ∃ q, w' = w.drewN q) : Below w.heap.size w w' := by
  obtain ⟨q, rfl⟩ := h
  exact pw_below_drewN (Below.refl _ _) q
theorem opC_l (op : BinOp) (o : Option (List Bool)) : opC op none o = false := by cases o <;> rfl
theorem opO_l (op : BinOp) (o : Option (List Bool)) : opO op none o = none := by cases o <;> rfl
theorem opC_r (op : BinOp) (o : Option (List Bool)) : opC op o none = false := by cases o <;> rfl
theorem opO_r (op : BinOp) (o : Option (List Bool)) : opO op o none = o := by cases o <;> rfl

theorem of_neg (n : Int) (A : Option Addr) (c : Nat) (l : List Int) (w : World) (hC : Kd.C (Kd.int .i64) w A l.length l) (hm : l.length ≤ 17592186044416) (hn : n < 0) :
    Calls Tryd.prog 8 #[.int .i64 n, .slice A l.length c] w fun e w' => e = .returned (.pointer none) ∧ w = w' := by
  have hC' := Aside0.mk hC
  clear hC
  go_enter Tryd.func8, Tryd.ntmps8
  go_wp2_with fail
  refine (new_bad n w (.inl hn)).mono ?_
  rintro e w1 ⟨rfl, rfl⟩
  go_wp2
  go_loop [12] (fun i => ∃ k : Nat, k ≤ l.length ∧ i = .int .i64 k) (fun i => l.length - (intOf i).toNat)
  case atStart => exact ⟨0, Nat.zero_le _, rfl⟩
  case round =>
    obtain ⟨k, hk, rfl⟩ := hrel
    by_cases hlt : k < l.length
    · obtain ⟨ad, rfl, hc⟩ := C_cellI hC'.out k hlt
      obtain ⟨x, hx⟩ : ∃ x, x = l.getD k 0 := ⟨_, rfl⟩
      rw [← hx] at hc
      clear hx
      go_wp2_with (go_at_call 12; refine (add_nil x _).mono ?_; rintro e w2 ⟨rfl, rfl⟩)
      go_round
      case rel => exact ⟨k + 1, by omega, by go_num⟩
      case measure => simp [intOf]; omega
    · have hke : k = l.length := by omega
      subst hke
      go_wp2
      go_ret
      exact ⟨rfl, rfl⟩

set_option maxRecDepth 100000 in
set_option maxHeartbeats 4000000 in
theorem nil_main_none (n i : Int) (A : Option Addr) (ca : Nat) (xa : List Int) (w : World) (hD : DB w) (hneg : n < 0) (hn : n ≤ 2000) (ha : xa.length ≤ 200)
    (hCa : Kd.C (Kd.int .i64) w A xa.length xa) :
    Calls Tryd.prog 6 #[.int .i64 n, .int .i64 i, .slice A xa.length ca] w fun e w' => e = .returned (.bool true) ∧ Below w.heap.size w w' := by
  have d2 : decide ((2000 : Int) < n) = false := by simp; omega
  have d3 : decide ((200 : Int) < (xa.length : Int)) = false := by simp; omega
  have hal : (xa.length : Int) ≤ 200 := by omega
  have hX := Aside0.mk (And.intro hCa hD)
  clear hCa hD
  go_enter Tryd.func6, Tryd.ntmps6
  go_wp2_with fail
  refine (awake_any w hX.out.2).mono ?_
  rintro e w1 ⟨rfl, B1⟩
  have H1 := Aside0.mk B1
  clear B1
  go_wp2_with fail
  refine (of_neg n A ca xa _ (Kd.C_alloc (Kd.C_below hX.out.1 H1.out) _) (by omega) hneg).mono ?_
  rintro e w' ⟨rfl, rfl⟩
  obtain ⟨w2, hw2⟩ : ∃ w2, w1.alloc (.cells #[.bool false, .int .i64 0, .slice none 0 0] 48) = w2 := ⟨_, rfl⟩
  have H3 : Aside0 (NW w (w2.alloc (.cells #[.pointer none, .pointer (some ⟨w1.heap.size, 0, none⟩)] 24)) w1.heap.size none none w2.heap.size ∧ Below w1.heap.size w1 w2) := by
    have hz0 : PS (w1.alloc (.cells #[.bool false, .int .i64 0, .slice none 0 0] 48)) (rng w1.heap.size (w1.heap.size + 1)) (some ⟨w1.heap.size, 0, none⟩) none := ⟨.inr (.inl ⟨_, rfl, rfl, ⟨Nat.le_refl _, by omega⟩, heap_alloc_new w1 _⟩)⟩
    rw [hw2] at hz0
    have h12 : Below w1.heap.size w1 w2 := by rw [← hw2]; exact below_alloc (Below.refl _ _) _
    have hk : w2.heap.size = w1.heap.size + 1 := by rw [← hw2]; simp
    have h1 := H1.out.size
    refine ⟨⟨⟨w1.heap.size, w1.heap.size + 1, w1.heap.size + 1, w2.heap.size, by omega, by omega, by omega, by omega, by omega, hz0.alloc _, PS.none_ _ _⟩, heap_alloc_new w2 _, ?_, hX.out.2, by decide⟩, h12⟩
    exact below_alloc (H1.out.trans (h12.mono H1.out.size)) _
  rw [hw2]
  clear hw2
  obtain ⟨z, hz⟩ : ∃ z, w1.heap.size = z := ⟨_, rfl⟩
  rw [hz] at H3 ⊢
  obtain ⟨B, hB⟩ : ∃ B, w2.heap.size = B := ⟨_, rfl⟩
  rw [hB] at H3
  have hBx := Aside0.mk hB
  clear hz hB H1
  go_wp2
  rw [hBx.out]
  clear hBx
  go_loopw [29] (fun c wr => ∃ k : Nat, k ≤ 2 ∧ c = .int .i64 k ∧ Aside0 (NW w wr z none none B)) (fun c _ => 2 - (intOf c).toNat)
  case atStart => exact ⟨0, Nat.zero_le _, rfl, ⟨H3.out.1⟩⟩
  case round =>
    obtain ⟨k, hk, rfl, hI⟩ := hrel
    by_cases hlt : k < 2
    · obtain ⟨x, hx, hcell⟩ : ∃ x, (x = none ∨ x = some ⟨z, 0, none⟩) ∧ wr.cell? ⟨B, k, none⟩ = some (.pointer x) := by
        rcases k with _ | _ | k
        · exact ⟨_, .inl rfl, cell_at hI.out.row rfl⟩
        · exact ⟨_, .inr rfl, cell_at hI.out.row rfl⟩
        · omega
      have hx' := Aside0.mk hx
      clear hx
      have G0 := hI
      clear hI
      go_wp2_with fail
      refine (elems_any x none _ (G0.out.px hx'.out) (by decide) G0.out.dbW).mono ?_
      rw [show elemsO none = [] from rfl]
      rintro e v1 ⟨u, rfl, hR, hb⟩
      obtain ⟨A0, c0, rfl⟩ := Kd.R_slice hR
      have G1 := Aside0.mk (G0.out.step hb)
      clear hR hb 
      go_wp2_with fail
      refine (cap_any x _ none _ (G1.out.px hx'.out)).mono ?_
      rw [show (((none : Option (List Bool)).getD []).length : Nat) = 0 from rfl]
      rintro e v2 ⟨rfl, rfl⟩
      have G2 := G1
      clear G1
      go_wp2_with fail
      refine (count_any x none _ (G2.out.px hx'.out) (by decide) G2.out.dbW).mono ?_
      rw [show (elemsO none).length = 0 from rfl]
      rintro e v3 ⟨rfl, hb⟩
      have G3 := Aside0.mk (G2.out.step hb)
      clear hb G2
      go_wp2_with fail
      refine (has_any x _ none i _ (G3.out.px hx'.out)).mono ?_
      rw [show hasO none i = false from rfl]
      rintro e uG4 ⟨rfl, hq⟩
      have G4 := Aside0.mk (G3.out.step (toBelow hq))
      clear hq G3
      go_wp2_with fail
      refine (NW.onx (Pr := fun e => e = .returned (.bool false)) G4.out hx'.out (fun ok ok2 h1 h2 hd => ?_)).mono ?_
      · have h := add_any x ok none i _ h1
        rw [show addB none i = false from rfl, show setO none i true = none from rfl] at h
        exact h
      rintro e v5 ⟨rfl, H⟩
      have G5 := Aside0.mk H
      clear H G4
      go_wp2_with fail
      refine (NW.onx (Pr := fun e => e = .returned (.bool false)) G5.out hx'.out (fun ok ok2 h1 h2 hd => ?_)).mono ?_
      · have h := remove_any x ok none i _ h1
        rw [show hasO none i = false from rfl, show setO none i false = none from rfl] at h
        exact h
      rintro e v6 ⟨rfl, H⟩
      have G6 := Aside0.mk H
      clear H G5
      go_wp2_with fail
      refine (NW.onx (Pr := fun e => e = .returned (.bool false)) G6.out hx'.out (fun ok ok2 h1 h2 hd => ?_)).mono ?_
      · have h := Union_any x none ok ok2 none none _ h1 h2 (.inl hd)
        rw [opC_l, opO_l] at h
        exact h
      rintro e v7 ⟨rfl, H⟩
      have G7 := Aside0.mk H
      clear H G6
      go_wp2_with fail
      refine (NW.onx (Pr := fun e => e = .returned (.bool false)) G7.out hx'.out (fun ok ok2 h1 h2 hd => ?_)).mono ?_
      · have h := Subtract_any x none ok ok2 none none _ h1 h2 (.inl hd)
        rw [opC_l, opO_l] at h
        exact h
      rintro e v8 ⟨rfl, H⟩
      have G8 := Aside0.mk H
      clear H G7
      go_wp2_with fail
      refine (NW.onx (Pr := fun e => e = .returned (.bool false)) G8.out hx'.out (fun ok ok2 h1 h2 hd => ?_)).mono ?_
      · have h := Intersect_any x none ok ok2 none none _ h1 h2 (.inl hd)
        rw [opC_l, opO_l] at h
        exact h
      rintro e v9 ⟨rfl, H⟩
      have G9 := Aside0.mk H
      clear H G8
      go_wp2_with fail
      refine (clone_none x _ _ (G9.out.px hx'.out)).mono ?_
      rintro e w' ⟨rfl, rfl⟩
      have G10 := G9
      clear G9
      go_wp2_with fail
      refine (equal_any x none _ (fun _ => False) none none _ (G10.out.px hx'.out) (PS.none_ _ _)).mono ?_
      rw [show decide ((none : Option (List Bool)) = none) = true from by decide]
      rintro e uG11 ⟨rfl, hq⟩
      have G11 := Aside0.mk (G10.out.step (toBelow hq))
      clear hq G10
      go_wp2_with fail
      refine (equal_any x (some ⟨z, 0, none⟩) _ _ none none _ (G11.out.px hx'.out) (G11.out.px (.inr rfl))).mono ?_
      rw [show decide ((none : Option (List Bool)) = none) = true from by decide]
      rintro e uG12 ⟨rfl, hq⟩
      have G12 := Aside0.mk (G11.out.step (toBelow hq))
      clear hq G11
      go_wp2_with fail
      refine (equal_any none x (fun _ => False) _ none none _ (PS.none_ _ _) (G12.out.px hx'.out)).mono ?_
      rw [show decide ((none : Option (List Bool)) = none) = true from by decide]
      rintro e uG13 ⟨rfl, hq⟩
      have G13 := Aside0.mk (G12.out.step (toBelow hq))
      clear hq G12
      go_wp2
      go_roundw
      case rel => exact ⟨k + 1, by omega, by go_num, G13⟩
      case measure => simp [intOf]; omega
    · have H9 := hI
      clear hI
      have H11 := Aside0.mk H9.out.below
      clear H9
      go_wp2
      go_ret
      exact ⟨rfl, H11.out⟩
set_option maxRecDepth 100000 in
set_option maxHeartbeats 4000000 in
theorem nil_main_some (m : Nat) (i : Int) (A : Option Addr) (ca : Nat) (xa : List Int) (w : World) (hD : DB w) (hn : m ≤ 2000) (ha : xa.length ≤ 200)
    (hCa : Kd.C (Kd.int .i64) w A xa.length xa) :
    Calls Tryd.prog 6 #[.int .i64 m, .int .i64 i, .slice A xa.length ca] w fun e w' => e = .returned (.bool true) ∧ Below w.heap.size w w' := by
  have d2 : decide ((2000 : Int) < (m : Int)) = false := by simp; omega
  have d3 : decide ((200 : Int) < (xa.length : Int)) = false := by simp; omega
  have hal : (xa.length : Int) ≤ 200 := by omega
  have hX := Aside0.mk (And.intro hCa hD)
  clear hCa hD
  go_enter Tryd.func6, Tryd.ntmps6
  go_wp2_with fail
  refine (awake_any w hX.out.2).mono ?_
  rintro e w1 ⟨rfl, B1⟩
  have H1 := Aside0.mk B1
  clear B1
  go_wp2_with fail
  obtain ⟨S, hS⟩ : ∃ S, S = setL m xa := ⟨_, rfl⟩
  refine (of_any (m : Int) A ca xa _ (Kd.C_alloc (Kd.C_below hX.out.1 H1.out) _) (by omega)).mono ?_
  rintro e w2 ⟨v, rfl, P, K⟩
  rw [ofO_some m xa (by omega), ← hS] at P
  obtain ⟨p, rfl, hBS⟩ := P.some_
  have hS' := Aside0.mk hS
  clear hS
  have H3 : Aside0 (NW w (w2.alloc (.cells #[.pointer none, .pointer (some ⟨w1.heap.size, 0, none⟩)] 24)) w1.heap.size (some ⟨p, 0, none⟩) (some S) w2.heap.size ∧ Below w1.heap.size w1 w2) := by
    have hz0 : PS (w1.alloc (.cells #[.bool false, .int .i64 0, .slice none 0 0] 48)) (rng w1.heap.size (w1.heap.size + 1)) (some ⟨w1.heap.size, 0, none⟩) none := ⟨.inr (.inl ⟨_, rfl, rfl, ⟨Nat.le_refl _, by omega⟩, heap_alloc_new w1 _⟩)⟩
    have h12 : Below w1.heap.size w1 w2 := ((Kp.refl (fun _ => False) w1).alloc _).then_ K (fun _ h => h.elim) |>.none_below
    have hk := K.size
    simp only [World.size_alloc] at hk
    have h1 := H1.out.size
    refine ⟨⟨⟨w1.heap.size, w1.heap.size + 1, w1.heap.size + 1, w2.heap.size, by omega, by omega, by omega, by omega, by omega, ?_, ?_⟩, heap_alloc_new w2 _, ?_, hX.out.2, ?_⟩, h12⟩
    · exact (hz0.kp K (fun _ _ h => h)).alloc _
    · exact ((PS.set_ hBS).here.mono (fun k hk => ⟨by have := hk.1; simpa using this, hk.2⟩)).alloc _
    · exact below_alloc (H1.out.trans (h12.mono H1.out.size)) _
    · have := lenO_of (m : Int) xa
      rw [ofO_some m xa (by omega), ← hS'.out] at this
      exact this
  clear P K hBS
  obtain ⟨z, hz⟩ : ∃ z, w1.heap.size = z := ⟨_, rfl⟩
  rw [hz] at H3 ⊢
  obtain ⟨B, hB⟩ : ∃ B, w2.heap.size = B := ⟨_, rfl⟩
  rw [hB] at H3
  have hBx := Aside0.mk hB
  clear hz hB H1
  go_wp2
  rw [hBx.out]
  clear hBx
  go_loopw [29] (fun c wr => ∃ k : Nat, k ≤ 2 ∧ c = .int .i64 k ∧ Aside0 (NW w wr z (some ⟨p, 0, none⟩) (some S) B)) (fun c _ => 2 - (intOf c).toNat)
  case atStart => exact ⟨0, Nat.zero_le _, rfl, ⟨H3.out.1⟩⟩
  case round =>
    obtain ⟨k, hk, rfl, hI⟩ := hrel
    by_cases hlt : k < 2
    · obtain ⟨x, hx, hcell⟩ : ∃ x, (x = none ∨ x = some ⟨z, 0, none⟩) ∧ wr.cell? ⟨B, k, none⟩ = some (.pointer x) := by
        rcases k with _ | _ | k
        · exact ⟨_, .inl rfl, cell_at hI.out.row rfl⟩
        · exact ⟨_, .inr rfl, cell_at hI.out.row rfl⟩
        · omega
      have hx' := Aside0.mk hx
      clear hx
      have G0 := hI
      clear hI
      go_wp2_with fail
      refine (elems_any x none _ (G0.out.px hx'.out) (by decide) G0.out.dbW).mono ?_
      rw [show elemsO none = [] from rfl]
      rintro e v1 ⟨u, rfl, hR, hb⟩
      obtain ⟨A0, c0, rfl⟩ := Kd.R_slice hR
      have G1 := Aside0.mk (G0.out.step hb)
      clear hR hb 
      go_wp2_with fail
      refine (cap_any x _ none _ (G1.out.px hx'.out)).mono ?_
      rw [show (((none : Option (List Bool)).getD []).length : Nat) = 0 from rfl]
      rintro e v2 ⟨rfl, rfl⟩
      have G2 := G1
      clear G1
      go_wp2_with fail
      refine (count_any x none _ (G2.out.px hx'.out) (by decide) G2.out.dbW).mono ?_
      rw [show (elemsO none).length = 0 from rfl]
      rintro e v3 ⟨rfl, hb⟩
      have G3 := Aside0.mk (G2.out.step hb)
      clear hb G2
      go_wp2_with fail
      refine (has_any x _ none i _ (G3.out.px hx'.out)).mono ?_
      rw [show hasO none i = false from rfl]
      rintro e uG4 ⟨rfl, hq⟩
      have G4 := Aside0.mk (G3.out.step (toBelow hq))
      clear hq G3
      go_wp2_with fail
      refine (NW.onx (Pr := fun e => e = .returned (.bool false)) G4.out hx'.out (fun ok ok2 h1 h2 hd => ?_)).mono ?_
      · have h := add_any x ok none i _ h1
        rw [show addB none i = false from rfl, show setO none i true = none from rfl] at h
        exact h
      rintro e v5 ⟨rfl, H⟩
      have G5 := Aside0.mk H
      clear H G4
      go_wp2_with fail
      refine (NW.onx (Pr := fun e => e = .returned (.bool false)) G5.out hx'.out (fun ok ok2 h1 h2 hd => ?_)).mono ?_
      · have h := remove_any x ok none i _ h1
        rw [show hasO none i = false from rfl, show setO none i false = none from rfl] at h
        exact h
      rintro e v6 ⟨rfl, H⟩
      have G6 := Aside0.mk H
      clear H G5
      go_wp2_with fail
      refine (NW.onx (Pr := fun e => e = .returned (.bool false)) G6.out hx'.out (fun ok ok2 h1 h2 hd => ?_)).mono ?_
      · have h := Union_any x (some ⟨p, 0, none⟩) ok ok2 none (some S) _ h1 h2 (.inl hd)
        rw [opC_l, opO_l] at h
        exact h
      rintro e v7 ⟨rfl, H⟩
      have G7 := Aside0.mk H
      clear H G6
      go_wp2_with fail
      refine (NW.onx (Pr := fun e => e = .returned (.bool false)) G7.out hx'.out (fun ok ok2 h1 h2 hd => ?_)).mono ?_
      · have h := Subtract_any x (some ⟨p, 0, none⟩) ok ok2 none (some S) _ h1 h2 (.inl hd)
        rw [opC_l, opO_l] at h
        exact h
      rintro e v8 ⟨rfl, H⟩
      have G8 := Aside0.mk H
      clear H G7
      go_wp2_with fail
      refine (NW.onx (Pr := fun e => e = .returned (.bool false)) G8.out hx'.out (fun ok ok2 h1 h2 hd => ?_)).mono ?_
      · have h := Intersect_any x (some ⟨p, 0, none⟩) ok ok2 none (some S) _ h1 h2 (.inl hd)
        rw [opC_l, opO_l] at h
        exact h
      rintro e v9 ⟨rfl, H⟩
      have G9 := Aside0.mk H
      clear H G8
      go_wp2_with fail
      refine (clone_none x _ _ (G9.out.px hx'.out)).mono ?_
      rintro e w' ⟨rfl, rfl⟩
      have G10 := G9
      clear G9
      go_wp2_with fail
      refine (equal_any x none _ (fun _ => False) none none _ (G10.out.px hx'.out) (PS.none_ _ _)).mono ?_
      rw [show decide ((none : Option (List Bool)) = none) = true from by decide]
      rintro e uG11 ⟨rfl, hq⟩
      have G11 := Aside0.mk (G10.out.step (toBelow hq))
      clear hq G10
      go_wp2_with fail
      refine (equal_any x (some ⟨z, 0, none⟩) _ _ none none _ (G11.out.px hx'.out) (G11.out.px (.inr rfl))).mono ?_
      rw [show decide ((none : Option (List Bool)) = none) = true from by decide]
      rintro e uG12 ⟨rfl, hq⟩
      have G12 := Aside0.mk (G11.out.step (toBelow hq))
      clear hq G11
      go_wp2_with fail
      refine (equal_any none x (fun _ => False) _ none none _ (PS.none_ _ _) (G12.out.px hx'.out)).mono ?_
      rw [show decide ((none : Option (List Bool)) = none) = true from by decide]
      rintro e uG13 ⟨rfl, hq⟩
      have G13 := Aside0.mk (G12.out.step (toBelow hq))
      clear hq G12
      go_wp2_with fail
      refine (NW.onv (Pr := fun e => e = .returned (.bool false)) G13.out hx'.out (fun ok ok2 h1 h2 hd => ?_)).mono ?_
      · have h := Union_any (some ⟨p, 0, none⟩) x ok ok2 (some S) none _ h1 h2 (.inl hd)
        rw [opC_r, opO_r] at h
        exact h
      rintro e v14 ⟨rfl, H⟩
      have G14 := Aside0.mk H
      clear H G13
      go_wp2_with fail
      refine (NW.onv (Pr := fun e => e = .returned (.bool false)) G14.out hx'.out (fun ok ok2 h1 h2 hd => ?_)).mono ?_
      · have h := Subtract_any (some ⟨p, 0, none⟩) x ok ok2 (some S) none _ h1 h2 (.inl hd)
        rw [opC_r, opO_r] at h
        exact h
      rintro e v15 ⟨rfl, H⟩
      have G15 := Aside0.mk H
      clear H G14
      go_wp2_with fail
      refine (NW.onv (Pr := fun e => e = .returned (.bool false)) G15.out hx'.out (fun ok ok2 h1 h2 hd => ?_)).mono ?_
      · have h := Intersect_any (some ⟨p, 0, none⟩) x ok ok2 (some S) none _ h1 h2 (.inl hd)
        rw [opC_r, opO_r] at h
        exact h
      rintro e v16 ⟨rfl, H⟩
      have G16 := Aside0.mk H
      clear H G15
      go_wp2_with fail
      refine (equal_any (some ⟨p, 0, none⟩) x _ _ (some S) none _ G16.out.pv (G16.out.px hx'.out)).mono ?_
      rw [show decide ((some S) = none) = false from by simp]
      rintro e uG17 ⟨rfl, hq⟩
      have G17 := Aside0.mk (G16.out.step (toBelow hq))
      clear hq G16
      go_wp2_with fail
      refine (equal_any x (some ⟨p, 0, none⟩) _ _ none (some S) _ (G17.out.px hx'.out) G17.out.pv).mono ?_
      rw [show decide (none = (some S)) = false from by simp]
      rintro e uG18 ⟨rfl, hq⟩
      have G18 := Aside0.mk (G17.out.step (toBelow hq))
      clear hq G17
      go_wp2
      go_roundw
      case rel => exact ⟨k + 1, by omega, by go_num, G18⟩
      case measure => simp [intOf]; omega
    · have H9 := hI
      clear hI
      go_wp2_with fail
      refine (of_any (m : Int) A ca xa _ (Kd.C_below hX.out.1 H9.out.below) (by omega)).mono ?_
      rintro e w5 ⟨v5, rfl, P5, K5⟩
      rw [ofO_some m xa (by omega), ← hS'.out] at P5
      have H10 := Aside0.mk (And.intro P5 (H9.out.step K5.none_below))
      clear P5 K5 H9
      go_wp2_with fail
      refine (equal_any (some ⟨p, 0, none⟩) v5 _ _ (some S) (some S) _ H10.out.2.pv H10.out.1).mono ?_
      rw [show decide ((some S) = (some S)) = true from by simp]
      rintro e w6 ⟨rfl, q, rfl⟩
      have H11 := Aside0.mk (H10.out.2.drewN q).below
      clear H10
      go_wp2
      go_ret
      exact ⟨rfl, H11.out⟩

theorem nil_walk (n i : Int) (A : Option Addr) (ca : Nat) (xa : List Int) (w : World) (wn : (Lit.int .i64 n).wf = true) (wi : (Lit.int .i64 i).wf = true) (ha : xa.length ≤ ca) (hCa : Kd.C (Kd.int .i64) w A xa.length xa) (ga : xa.length * 8 ≤ 140737488351232 ∧ ∀ x ∈ xa, (Lit.int .i64 x).wf = true) (hD : DB w) :
    Calls Tryd.prog 6 #[.int .i64 n, .int .i64 i, .slice A xa.length ca] w fun e w' => e = .returned (.bool true) ∧ Below w.heap.size w w' := by
  by_cases he : 2000 < n ∨ (200 : Int) < xa.length
  · exact nil_early n i A _ ca w hD he
  · by_cases hneg : n < 0
    · exact nil_main_none n i A ca xa w hD hneg (by omega) (by omega) hCa
    · obtain ⟨m, rfl⟩ := Int.eq_ofNat_of_zero_le (show 0 ≤ n by omega)
      exact nil_main_some m i A ca xa w hD (by omega) (by omega) hCa
end Go.Proofs.YtibjpamnkhnagaaDoor
