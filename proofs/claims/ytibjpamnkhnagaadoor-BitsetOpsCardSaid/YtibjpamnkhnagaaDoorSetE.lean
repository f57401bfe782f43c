/- Package bitset: Union, Subtract, Intersect, Equal, Clone, Cap of sets in any state. -/
import Derived.Test.YtibjpamnkhnagaaDoorSetD
import Derived.Test.YtibjpamnkhnagaaDoorPBitsetOpsx1
set_option linter.unusedVariables false
set_option linter.unusedSimpArgs false
namespace Go.Proofs.YtibjpamnkhnagaaDoor
open Go.RowKit Go.Proofs.YtibjpamnkhnagaaDoorW.PrintWords Mem Bit

/-- Whether a set is a set. -/
def VS (w : World) (v : Option Addr) (b : Bool) : Prop := (v = none ∧ b = false) ∨ ∃ p, v = some ⟨p, 0, none⟩ ∧ w.cell? ⟨p, 0, none⟩ = some (.bool b)
theorem VS.drewN {w : World} {v : Option Addr} {b : Bool} (h : VS w v b) (q : Nat) : VS (w.drewN q) v b := h
theorem PS.vs {w : World} {ok : Nat → Prop} {v : Option Addr} {o : Option (List Bool)} (h : PS w ok v o) : VS w v o.isSome := by
  rcases h.ex with ⟨rfl, rfl⟩ | ⟨p, rfl, rfl, h3, h4⟩ | ⟨p, bs, rfl, rfl, h3⟩
  · exact .inl ⟨rfl, rfl⟩
  · exact .inr ⟨p, rfl, cell_at h4 rfl⟩
  · obtain ⟨g, cc, hp, _⟩ := h3.ex
    exact .inr ⟨p, rfl, cell_at hp rfl⟩
theorem valid_st (v : Option Addr) (b : Bool) (w : World) (h : VS w v b) : Calls Tryd.prog 34 #[.pointer v] w fun e w' => e = .returned (.bool b) ∧ w' = w := by
  rcases h with ⟨rfl, rfl⟩ | ⟨p, rfl, hc⟩
  · exact (valid_nil w).mono fun _ _ h => ⟨h.1, h.2.symm⟩
  · cases b with
    | true => exact (valid_ok p w hc).mono fun _ _ h => ⟨h.1, h.2.symm⟩
    | false => exact (valid_zero p w hc).mono fun _ _ h => ⟨h.1, h.2.symm⟩

def opO (op : BinOp) (o1 o2 : Option (List Bool)) : Option (List Bool) :=
  match o1, o2 with
  | some bs, some cs => if bs.length = cs.length then some (zipB op bs cs) else some bs
  | o, _ => o
def opC (op : BinOp) (o1 o2 : Option (List Bool)) : Bool :=
  match o1, o2 with
  | some bs, some cs => if bs.length = cs.length then decide (zipB op bs cs ≠ bs) else false
  | _, _ => false

set_option maxHeartbeats 400000 in
theorem comb_no1 (v u : Option Addr) (K : Nat) (w : World) (h : VS w v false) :
    Calls Tryd.prog 39 #[.pointer v, .pointer u, .func (.func K) #[] #[]] w fun e w' => e = .returned (.bool false) ∧ ∃ q, w' = w.drewN q := by
  have h' := Aside0.mk h
  clear h
  go_enter Tryd.func39, Tryd.ntmps39
  go_wp2
  go_quiet ((go_at_call 34; exact Calls.quiet_of_same (valid_st v false _ (h'.out.drewN _))))
  go_wp2
  go_ret
  exact ⟨rfl, _, rfl⟩
set_option maxHeartbeats 400000 in
theorem comb_no2 (v u : Option Addr) (K : Nat) (w : World) (h : VS w v true) (h2 : VS w u false) :
    Calls Tryd.prog 39 #[.pointer v, .pointer u, .func (.func K) #[] #[]] w fun e w' => e = .returned (.bool false) ∧ ∃ q, w' = w.drewN q := by
  have h' := Aside0.mk h
  have h2' := Aside0.mk h2
  clear h h2
  go_enter Tryd.func39, Tryd.ntmps39
  go_wp2
  go_quiet ((go_at_call 34; (first | with_reducible exact Calls.quiet_of_same (valid_st v true _ (h'.out.drewN _)) | with_reducible exact Calls.quiet_of_same (valid_st u false _ (h2'.out.drewN _)))))
  go_wp2
  go_ret
  exact ⟨rfl, _, rfl⟩
set_option maxHeartbeats 400000 in
theorem comb_ne (p po : Nat) (K a b : Nat) (w : World) (c0 : w.cell? ⟨p, 0, none⟩ = some (.bool true)) (d0 : w.cell? ⟨po, 0, none⟩ = some (.bool true))
    (c1 : w.cell? ⟨p, 1, none⟩ = some (.int .i64 a)) (d1 : w.cell? ⟨po, 1, none⟩ = some (.int .i64 b)) (hne : ((a : Int) != (b : Int)) = true) :
    Calls Tryd.prog 39 #[.pointer (some ⟨p, 0, none⟩), .pointer (some ⟨po, 0, none⟩), .func (.func K) #[] #[]] w fun e w' => e = .returned (.bool false) ∧ ∃ q, w' = w.drewN q := by
  go_enter Tryd.func39, Tryd.ntmps39
  go_wp2
  go_quiet ((go_at_call 34; exact Calls.quiet_of_same (valid_ok' _ _ (by assumption))))
  go_wp2
  go_ret
  exact ⟨rfl, _, rfl⟩

def fitO (o1 o2 : Option (List Bool)) : Bool := match o1, o2 with | some bs, some cs => decide (bs.length = cs.length) | _, _ => false
theorem opO_no {op : BinOp} {o1 o2 : Option (List Bool)} (h : fitO o1 o2 = false) : opO op o1 o2 = o1 ∧ opC op o1 o2 = false := by
  cases o1 with
  | none => exact ⟨rfl, rfl⟩
  | some bs =>
    cases o2 with
    | none => exact ⟨rfl, rfl⟩
    | some cs =>
      have h1 : ¬ bs.length = cs.length := of_decide_eq_false h
      simp [opO, opC, h1]
theorem comb_no (v u : Option Addr) (ok ok2 : Nat → Prop) (o1 o2 : Option (List Bool)) (K : Nat) (w : World) (h1 : PS w ok v o1) (h2 : PS w ok2 u o2) (hf : fitO o1 o2 = false) :
    Calls Tryd.prog 39 #[.pointer v, .pointer u, .func (.func K) #[] #[]] w fun e w' => e = .returned (.bool false) ∧ ∃ q, w' = w.drewN q := by
  cases o1 with
  | none => exact comb_no1 v u K w h1.vs
  | some bs =>
    cases o2 with
    | none => exact comb_no2 v u K w h1.vs h2.vs
    | some cs =>
      have hne : ¬ bs.length = cs.length := of_decide_eq_false hf
      rcases h1.ex with ⟨_, h⟩ | ⟨p, _, h, _⟩ | ⟨p, bs', rfl, h, hB⟩
      · cases h
      · cases h
      · obtain rfl : bs = bs' := Option.some.inj h
        rcases h2.ex with ⟨_, h⟩ | ⟨p, _, h, _⟩ | ⟨po, cs', rfl, h, hC⟩
        · cases h
        · cases h
        · obtain rfl : cs = cs' := Option.some.inj h
          obtain ⟨g, cc, hp, _⟩ := hB.ex
          obtain ⟨g2, cc2, hq, _⟩ := hC.ex
          exact comb_ne p po K bs.length cs.length w (cell_at hp rfl) (cell_at hq rfl) (cell_at hp rfl) (cell_at hq rfl) (by rw [bne_iff_ne]; omega)
theorem two_sets {w : World} {ok ok2 : Nat → Prop} {v u : Option Addr} {o1 o2 : Option (List Bool)} (h1 : PS w ok v o1) (h2 : PS w ok2 u o2) (hf : fitO o1 o2 = true) :
    ∃ p po bs cs, v = some ⟨p, 0, none⟩ ∧ u = some ⟨po, 0, none⟩ ∧ o1 = some bs ∧ o2 = some cs ∧ BS w ok p bs ∧ BS w ok2 po cs ∧ bs.length = cs.length := by
  rcases h1.ex with ⟨_, rfl⟩ | ⟨p, _, rfl, _⟩ | ⟨p, bs, rfl, rfl, hB⟩
  · simp [fitO] at hf
  · simp [fitO] at hf
  · rcases h2.ex with ⟨_, rfl⟩ | ⟨p, _, rfl, _⟩ | ⟨po, cs, rfl, rfl, hC⟩
    · simp [fitO] at hf
    · simp [fitO] at hf
    · exact ⟨p, po, bs, cs, rfl, rfl, rfl, rfl, hB, hC, by simpa [fitO] using hf⟩

/-! Equal -/
theorem beqI_self (a b : Int) (h : a = b) : (a == b) = true := by simp [h]
theorem eq_run (n : Nat) : ∀ (d : Nat) (a b : List Int) (i : Nat), a.length = n → b.length = n → i + d = n → n ≤ 2000000 → PBitsetOps.slices_Equal_uint64_uint64.l0 (d + 1) a b (n : Int) (i : Int) = some (decide (a.drop i = b.drop i)) ∧
    PBitsetOps.burnishlaw03_equal.l0 (d + 1) a b (n : Int) (i : Int) = some (decide (a.drop i = b.drop i))
  | 0, a, b, i, ha, hb, hi, hn => by
    have h1 : ¬ ((i : Int) < (n : Int)) := by omega
    have h2 : a.drop i = [] := List.drop_of_length_le (by omega)
    have h3 : b.drop i = [] := List.drop_of_length_le (by omega)
    constructor
    · simp only [PBitsetOps.slices_Equal_uint64_uint64.l0]; rw [if_neg h1, h2, h3]; rfl
    · simp only [PBitsetOps.burnishlaw03_equal.l0]; rw [if_neg h1, h2, h3]; rfl
  | d + 1, a, b, i, ha, hb, hi, hn => by
    have h1 : ((i : Int) < (n : Int)) := by omega
    have h4 : (0 : Int) ≤ i := by omega
    have h5 : (i : Int) < (a.length : Int) := by omega
    have h6 : (i : Int) < (b.length : Int) := by omega
    have ih := eq_run n d a b (i + 1) ha hb (by omega) hn
    have hw : wrap64 ((i : Int) + 1) = ((i + 1 : Nat) : Int) := by unfold wrap64; omega
    have hia : i < a.length := by omega
    have hib : i < b.length := by omega
    have ea : rd a (i : Int) = a[i] := by unfold rd; rw [Int.toNat_natCast, List.getD_eq_getElem?_getD, List.getElem?_eq_getElem hia]; rfl
    have eb : rd b (i : Int) = b[i] := by unfold rd; rw [Int.toNat_natCast, List.getD_eq_getElem?_getD, List.getElem?_eq_getElem hib]; rfl
    have da : a.drop i = a[i] :: a.drop (i + 1) := List.drop_eq_getElem_cons hia
    have db : b.drop i = b[i] :: b.drop (i + 1) := List.drop_eq_getElem_cons hib
    have hfin : ∀ x : Option Bool, x = some (decide (a.drop (i + 1) = b.drop (i + 1))) → (if rd a (i : Int) = rd b (i : Int) then x else some false) = some (decide (a.drop i = b.drop i)) := by
      intro x hx
      rw [hx, ea, eb, da, db]
      by_cases he : a[i] = b[i]
      · rw [if_pos he]
        congr 1
        rw [Bool.eq_iff_iff]
        simp only [decide_eq_true_eq, List.cons.injEq]
        exact ⟨fun h => ⟨he, h⟩, fun h => h.2⟩
      · rw [if_neg he, decide_eq_false (fun h => he (List.cons.inj h).1)]
    constructor
    · simp only [PBitsetOps.slices_Equal_uint64_uint64.l0]; rw [if_pos h1, if_pos h4, if_pos h5, if_pos h6, hw]; exact hfin _ ih.1
    · simp only [PBitsetOps.burnishlaw03_equal.l0]; rw [if_pos h1, if_pos h4, if_pos h5, if_pos h6, hw]; exact hfin _ ih.2
theorem sl_equal (A0 : Option Addr) (c0 : Nat) (l0 : List Int) (A1 : Option Addr) (c1 : Nat) (l1 : List Int) (w : World) (hr0 : Kd.C (Kd.int .u64) w A0 l0.length l0) (hc0 : l0.length ≤ c0) (hr1 : Kd.C (Kd.int .u64) w A1 l1.length l1) (hc1 : l1.length ≤ c1) (hn : l0.length ≤ 2000000) (r : Bool) (hr : decide (l0 = l1) = r) :
    Calls Tryd.prog 35 #[.slice A0 l0.length c0, .slice A1 l1.length c1] w fun e w' => e = .returned (.bool r) ∧ ∃ q, w' = w.drewN q := by
  subst hr
  refine (PBitsetOps.slices_Equal_uint64_uint64.calls (l0.length + 1) A0 c0 l0 A1 c1 l1 (decide (l0 = l1)) w hr0 hc0 hr1 hc1 ?_).mono fun e w' h => ⟨h.1, h.2.out⟩
  unfold PBitsetOps.slices_Equal_uint64_uint64.f
  by_cases hl : l0.length = l1.length
  · rw [if_pos (by omega)]
    have := (eq_run l0.length l0.length l0 l1 0 rfl hl.symm (by omega) hn).1
    simpa using this
  · rw [if_neg (by omega)]
    have : ¬ l0 = l1 := fun e => hl (by rw [e])
    rw [decide_eq_false this]
theorem law_equal (A0 : Option Addr) (c0 : Nat) (l0 : List Int) (A1 : Option Addr) (c1 : Nat) (l1 : List Int) (w : World) (hr0 : Kd.C (Kd.int .i64) w A0 l0.length l0) (hc0 : l0.length ≤ c0) (hr1 : Kd.C (Kd.int .i64) w A1 l1.length l1) (hc1 : l1.length ≤ c1) (hn : l0.length ≤ 2000000) (r : Bool) (hr : decide (l0 = l1) = r) :
    Calls Tryd.prog 33 #[.slice A0 l0.length c0, .slice A1 l1.length c1] w fun e w' => e = .returned (.bool r) ∧ ∃ q, w' = w.drewN q := by
  subst hr
  refine (PBitsetOps.burnishlaw03_equal.calls (l0.length + 1) A0 c0 l0 A1 c1 l1 (decide (l0 = l1)) w hr0 hc0 hr1 hc1 ?_).mono fun e w' h => ⟨h.1, h.2.out⟩
  unfold PBitsetOps.burnishlaw03_equal.f
  by_cases hl : l0.length = l1.length
  · rw [if_pos (by omega)]
    have := (eq_run l0.length l0.length l0 l1 0 rfl hl.symm (by omega) hn).2
    simpa using this
  · rw [if_neg (by omega)]
    have : ¬ l0 = l1 := fun e => hl (by rw [e])
    rw [decide_eq_false this]
theorem R_readC {α : Type} {d : Kd α} {e base n c : Nat} {ok : Nat → Prop} {w : World} {A : Option Addr} {xs : List α} (h : d.R e w base ok (.slice A n c) xs) : n = xs.length ∧ n ≤ c ∧ d.C w A n xs := by
  obtain ⟨A', c', he, hle, hC⟩ := Kd.R_reads h
  injection he with e1 e2 e3
  subst e1; subst e2; subst e3
  exact ⟨rfl, hle, hC⟩
set_option maxHeartbeats 400000 in
theorem equal_two (p po : Nat) (ok ok2 : Nat → Prop) (bs cs : List Bool) (r : Bool) (w : World) (hS : BS w ok p bs) (hO : BS w ok2 po cs) (hr : decide (bs = cs) = r) :
    Calls Tryd.prog 10 #[.pointer (some ⟨p, 0, none⟩), .pointer (some ⟨po, 0, none⟩)] w fun e w' => e = .returned (.bool r) ∧ ∃ q, w' = w.drewN q := by
  obtain ⟨g, cc, hp, okp, hR, hl⟩ := hS.ex
  obtain ⟨go_, c2, hq, okq, hRo, hl2⟩ := hO.ex
  have c0 : w.cell? ⟨p, 0, none⟩ = some (.bool true) := cell_at hp rfl
  have c1 : w.cell? ⟨p, 1, none⟩ = some (.int .i64 bs.length) := cell_at hp rfl
  have c2' : w.cell? ⟨p, 2, none⟩ = some (.slice (some ⟨g, 0, none⟩) (wds bs).length cc) := cell_at hp rfl
  have d0 : w.cell? ⟨po, 0, none⟩ = some (.bool true) := cell_at hq rfl
  have d1 : w.cell? ⟨po, 1, none⟩ = some (.int .i64 cs.length) := cell_at hq rfl
  have d2 : w.cell? ⟨po, 2, none⟩ = some (.slice (some ⟨go_, 0, none⟩) (wds cs).length c2) := cell_at hq rfl
  obtain ⟨_, hle1, hC1⟩ := R_readC hR
  obtain ⟨_, hle2, hC2⟩ := R_readC hRo
  have hbig : (wds bs).length ≤ 2000000 := by rw [wds_length]; omega
  have hX := Aside0.mk (And.intro hle1 (And.intro hC1 (And.intro hle2 (And.intro hC2 hbig))))
  by_cases hn : bs.length = cs.length
  · have e1 : (((bs.length : Nat) : Int) == ((cs.length : Nat) : Int)) = true := beqI_self _ _ (by omega)
    have e2 : (bs.length == cs.length) = true := by simpa using hn
    have e3 : decide (bs.length = cs.length) = true := by simpa using hn
    have hd : decide (wds bs = wds cs) = r := by
      rw [← hr]
      rw [Bool.eq_iff_iff]
      simp only [decide_eq_true_eq]
      exact ⟨fun h => wds_inj hn h, fun h => by rw [h]⟩
    have hd' := Aside0.mk hd
    obtain ⟨b1, hb1⟩ : ∃ b1, b1 = (wds bs).length := ⟨_, rfl⟩
    obtain ⟨b2, hb2⟩ : ∃ b2, b2 = (wds cs).length := ⟨_, rfl⟩
    clear hp hR hS hO hq hRo hn hr hd hle1 hle2 hC1 hC2 hbig hb1 hb2
    go_enter Tryd.func10, Tryd.ntmps10
    go_wp2_with (go_at_call 34; refine (valid_ok _ _ (by assumption)).mono ?_; rintro e w' ⟨rfl, rfl⟩)
    go_quiet ((go_at_call 35; exact Calls.quiet_of (sl_equal _ _ (wds bs) _ _ (wds cs) _ (Kd.C_drewN hX.out.2.1 _) hX.out.1 (Kd.C_drewN hX.out.2.2.2.1 _) hX.out.2.2.1 hX.out.2.2.2.2 r hd'.out)))
    go_wp2
    go_ret
    exact ⟨rfl, _, rfl⟩
  · have e1 : (((bs.length : Nat) : Int) == ((cs.length : Nat) : Int)) = false := by simpa using (show ¬ ((bs.length : Int) = (cs.length : Int)) by omega)
    have e2 : (bs.length == cs.length) = false := by simpa using hn
    have e3 : decide (bs.length = cs.length) = false := by simpa using hn
    have hr' : r = false := by rw [← hr]; exact decide_eq_false (fun h => hn (by rw [h]))
    subst hr'
    clear hp hR hS hO hq hRo hn hr hle1 hle2 hC1 hC2 hbig hX
    go_enter Tryd.func10, Tryd.ntmps10
    go_wp2_with (go_at_call 34; refine (valid_ok _ _ (by assumption)).mono ?_; rintro e w' ⟨rfl, rfl⟩)
    go_quiet (fail)
    go_wp2
    go_ret
    exact ⟨rfl, _, rfl⟩

theorem comb_or_any (v u : Option Addr) (ok ok2 : Nat → Prop) (o1 o2 : Option (List Bool)) (w : World) (h1 : PS w ok v o1) (h2 : PS w ok2 u o2) (hal : (∀ k, ok2 k → ¬ ok k) ∨ u = v ∧ o2 = o1) :
    Calls Tryd.prog 39 #[.pointer v, .pointer u, .func (.func 40) #[] #[]] w fun e w' => e = .returned (.bool (opC .or o1 o2)) ∧ PS w' ok v (opO .or o1 o2) ∧ Kp ok w w' := by
  cases hf : fitO o1 o2 with
  | false =>
    rw [(opO_no (op := .or) hf).1, (opO_no (op := .or) hf).2]
    refine (comb_no v u ok ok2 o1 o2 _ w h1 h2 hf).mono ?_
    rintro e w' ⟨rfl, q, rfl⟩
    exact ⟨rfl, h1.drewN q, (Kp.refl _ _).drewN q⟩
  | true =>
    obtain ⟨p, po, bs, cs, rfl, rfl, rfl, rfl, hB, hC, hn⟩ := two_sets h1 h2 hf
    have e1 : opC .or (some bs) (some cs) = decide (zipB .or bs cs ≠ bs) := by simp only [opC, if_pos hn]
    have e2 : opO .or (some bs) (some cs) = some (zipB .or bs cs) := by simp only [opO, if_pos hn]
    rw [e1, e2]
    refine (comb_or p po ok ok2 bs cs w hB hC hn ?_).mono ?_
    · rcases hal with h | ⟨h, h'⟩
      · exact .inl h
      · refine .inr ⟨?_, Option.some.inj h'⟩
        simpa using h
    · rintro e w' ⟨rfl, hB', hK⟩
      exact ⟨rfl, PS.set_ hB', hK⟩
theorem Union_any (v u : Option Addr) (ok ok2 : Nat → Prop) (o1 o2 : Option (List Bool)) (w : World) (h1 : PS w ok v o1) (h2 : PS w ok2 u o2) (hal : (∀ k, ok2 k → ¬ ok k) ∨ u = v ∧ o2 = o1) :
    Calls Tryd.prog 21 #[.pointer v, .pointer u] w fun e w' => e = .returned (.bool (opC .or o1 o2)) ∧ PS w' ok v (opO .or o1 o2) ∧ Kp ok w w' := by
  have h1' := Aside0.mk h1
  have h2' := Aside0.mk h2
  have hal' := Aside0.mk hal
  clear h1 h2 hal
  go_enter Tryd.func21, Tryd.ntmps21
  go_wp2_with fail
  refine (comb_or_any v u ok ok2 o1 o2 w h1'.out h2'.out hal'.out).mono ?_
  rintro e w' ⟨rfl, hP, hK⟩
  have hX := Aside0.mk (And.intro hP hK)
  clear hP hK
  go_wp2
  go_ret
  exact ⟨rfl, hX.out.1, hX.out.2⟩

theorem comb_andNot_any (v u : Option Addr) (ok ok2 : Nat → Prop) (o1 o2 : Option (List Bool)) (w : World) (h1 : PS w ok v o1) (h2 : PS w ok2 u o2) (hal : (∀ k, ok2 k → ¬ ok k) ∨ u = v ∧ o2 = o1) :
    Calls Tryd.prog 39 #[.pointer v, .pointer u, .func (.func 42) #[] #[]] w fun e w' => e = .returned (.bool (opC .andNot o1 o2)) ∧ PS w' ok v (opO .andNot o1 o2) ∧ Kp ok w w' := by
  cases hf : fitO o1 o2 with
  | false =>
    rw [(opO_no (op := .andNot) hf).1, (opO_no (op := .andNot) hf).2]
    refine (comb_no v u ok ok2 o1 o2 _ w h1 h2 hf).mono ?_
    rintro e w' ⟨rfl, q, rfl⟩
    exact ⟨rfl, h1.drewN q, (Kp.refl _ _).drewN q⟩
  | true =>
    obtain ⟨p, po, bs, cs, rfl, rfl, rfl, rfl, hB, hC, hn⟩ := two_sets h1 h2 hf
    have e1 : opC .andNot (some bs) (some cs) = decide (zipB .andNot bs cs ≠ bs) := by simp only [opC, if_pos hn]
    have e2 : opO .andNot (some bs) (some cs) = some (zipB .andNot bs cs) := by simp only [opO, if_pos hn]
    rw [e1, e2]
    refine (comb_andNot p po ok ok2 bs cs w hB hC hn ?_).mono ?_
    · rcases hal with h | ⟨h, h'⟩
      · exact .inl h
      · refine .inr ⟨?_, Option.some.inj h'⟩
        simpa using h
    · rintro e w' ⟨rfl, hB', hK⟩
      exact ⟨rfl, PS.set_ hB', hK⟩
theorem Subtract_any (v u : Option Addr) (ok ok2 : Nat → Prop) (o1 o2 : Option (List Bool)) (w : World) (h1 : PS w ok v o1) (h2 : PS w ok2 u o2) (hal : (∀ k, ok2 k → ¬ ok k) ∨ u = v ∧ o2 = o1) :
    Calls Tryd.prog 23 #[.pointer v, .pointer u] w fun e w' => e = .returned (.bool (opC .andNot o1 o2)) ∧ PS w' ok v (opO .andNot o1 o2) ∧ Kp ok w w' := by
  have h1' := Aside0.mk h1
  have h2' := Aside0.mk h2
  have hal' := Aside0.mk hal
  clear h1 h2 hal
  go_enter Tryd.func23, Tryd.ntmps23
  go_wp2_with fail
  refine (comb_andNot_any v u ok ok2 o1 o2 w h1'.out h2'.out hal'.out).mono ?_
  rintro e w' ⟨rfl, hP, hK⟩
  have hX := Aside0.mk (And.intro hP hK)
  clear hP hK
  go_wp2
  go_ret
  exact ⟨rfl, hX.out.1, hX.out.2⟩

theorem comb_and_any (v u : Option Addr) (ok ok2 : Nat → Prop) (o1 o2 : Option (List Bool)) (w : World) (h1 : PS w ok v o1) (h2 : PS w ok2 u o2) (hal : (∀ k, ok2 k → ¬ ok k) ∨ u = v ∧ o2 = o1) :
    Calls Tryd.prog 39 #[.pointer v, .pointer u, .func (.func 43) #[] #[]] w fun e w' => e = .returned (.bool (opC .and o1 o2)) ∧ PS w' ok v (opO .and o1 o2) ∧ Kp ok w w' := by
  cases hf : fitO o1 o2 with
  | false =>
    rw [(opO_no (op := .and) hf).1, (opO_no (op := .and) hf).2]
    refine (comb_no v u ok ok2 o1 o2 _ w h1 h2 hf).mono ?_
    rintro e w' ⟨rfl, q, rfl⟩
    exact ⟨rfl, h1.drewN q, (Kp.refl _ _).drewN q⟩
  | true =>
    obtain ⟨p, po, bs, cs, rfl, rfl, rfl, rfl, hB, hC, hn⟩ := two_sets h1 h2 hf
    have e1 : opC .and (some bs) (some cs) = decide (zipB .and bs cs ≠ bs) := by simp only [opC, if_pos hn]
    have e2 : opO .and (some bs) (some cs) = some (zipB .and bs cs) := by simp only [opO, if_pos hn]
    rw [e1, e2]
    refine (comb_and p po ok ok2 bs cs w hB hC hn ?_).mono ?_
    · rcases hal with h | ⟨h, h'⟩
      · exact .inl h
      · refine .inr ⟨?_, Option.some.inj h'⟩
        simpa using h
    · rintro e w' ⟨rfl, hB', hK⟩
      exact ⟨rfl, PS.set_ hB', hK⟩
theorem Intersect_any (v u : Option Addr) (ok ok2 : Nat → Prop) (o1 o2 : Option (List Bool)) (w : World) (h1 : PS w ok v o1) (h2 : PS w ok2 u o2) (hal : (∀ k, ok2 k → ¬ ok k) ∨ u = v ∧ o2 = o1) :
    Calls Tryd.prog 25 #[.pointer v, .pointer u] w fun e w' => e = .returned (.bool (opC .and o1 o2)) ∧ PS w' ok v (opO .and o1 o2) ∧ Kp ok w w' := by
  have h1' := Aside0.mk h1
  have h2' := Aside0.mk h2
  have hal' := Aside0.mk hal
  clear h1 h2 hal
  go_enter Tryd.func25, Tryd.ntmps25
  go_wp2_with fail
  refine (comb_and_any v u ok ok2 o1 o2 w h1'.out h2'.out hal'.out).mono ?_
  rintro e w' ⟨rfl, hP, hK⟩
  have hX := Aside0.mk (And.intro hP hK)
  clear hP hK
  go_wp2
  go_ret
  exact ⟨rfl, hX.out.1, hX.out.2⟩
end Go.Proofs.YtibjpamnkhnagaaDoor
