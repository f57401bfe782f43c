/- The reference's sets: Add, Remove, Of, Cap, Clone. -/
import Derived.Test.YtibjpamnkhnagaaDoorRefA
set_option linter.unusedVariables false
set_option linter.unusedSimpArgs false
namespace Go.Proofs.YtibjpamnkhnagaaDoor
open Go.RowKit Go.Proofs.YtibjpamnkhnagaaDoorW.PrintWords Mem Bit

theorem RS.put {w : World} {ok : Nat → Prop} {p g cc : Nat} {bs : List Bool} (hp : w.heap[p]? = some (.cells #[.bool true, .slice (some ⟨g, 0, none⟩) bs.length cc] 59 (0, 0))) (okp : ok p)
    (hR : Kd.R Kd.bool 4 w 0 (fun k => ok k ∧ k ≠ p) (.slice (some ⟨g, 0, none⟩) bs.length cc) bs) (hl : bs.length ≤ 65536) (i : Nat) (b : Bool) :
    RS (w.setCell ⟨g, i, none⟩ (.bool b)) ok p (bs.set i b) ∧ Kp ok w (w.setCell ⟨g, i, none⟩ (.bool b)) := by
  have hg : ok g ∧ g ≠ p := hR.1 g (by simp [Value.ownBlock])
  have h2 := (Kd.R_put hR (i : Int) b).1
  rw [Int.toNat_natCast] at h2
  refine ⟨⟨⟨some ⟨g, 0, none⟩, cc, ?_, okp, ?_, by simpa using hl⟩⟩, (Kp.refl ok w).setCell (.inl hg.1) _⟩
  · rw [List.length_set]
    exact (Below.heap_setCell w ⟨g, i, none⟩ _ p (fun e => hg.2 e.symm)).trans hp
  · rw [List.length_set]; exact h2

theorem radd_any (v : Option Addr) (ok : Nat → Prop) (o : Option (List Bool)) (i : Int) (w : World) (h : RP w ok v o) :
    Calls Tryd.prog 18 #[.pointer v, .int .i64 i] w fun e w' => e = .returned (.bool (addB o i)) ∧ RP w' ok v (setO o i true) ∧ Kp ok w w' := by
  have hv := Aside0.mk h.vs
  rcases h.ex with ⟨rfl, rfl⟩ | ⟨p, bs, rfl, rfl, h3⟩
  · clear h
    show Calls _ _ _ _ fun e w' => e = .returned (.bool false) ∧ RP w' ok none none ∧ Kp ok w w'
    go_enter Tryd.func18, Tryd.ntmps18
    go_wp2_with (go_at_call 38; refine (rok_s2 none false _ hv.out).mono ?_; rintro e w' ⟨rfl, rfl⟩)
    go_ret
    exact ⟨rfl, RP.none_ _ _, Kp.refl _ _⟩
  · obtain ⟨A, cc, hp, okp, hR, hl⟩ := h3.ex
    have c1 : w.cell? ⟨p, 1, none⟩ = some (.slice A bs.length cc) := cell_at hp rfl
    have hX := Aside0.mk (And.intro hp (And.intro hR h))
    clear hp hR h3 h
    by_cases h0 : i < 0
    · have e1 : addB (some bs) i = false := by unfold addB inO; simp [show ¬ 0 ≤ i by omega]
      have e2 : setO (some bs) i true = some bs := by unfold setO; simp [show ¬ 0 ≤ i by omega]
      rw [e1, e2]
      clear e1 e2
      go_enter Tryd.func18, Tryd.ntmps18
      go_wp2_with (go_at_call 38; refine (rok_s2 _ true _ hv.out).mono ?_; rintro e w' ⟨rfl, rfl⟩)
      go_ret
      exact ⟨rfl, hX.out.2.2, Kp.refl _ _⟩
    · have h1 : 0 ≤ i := by omega
      obtain ⟨j, rfl⟩ := Int.eq_ofNat_of_zero_le h1
      by_cases h2 : (bs.length : Int) ≤ (j : Int)
      · have e1 : addB (some bs) (j : Int) = false := by unfold addB inO; simp [show ¬ j < bs.length by omega]
        have e2 : setO (some bs) (j : Int) true = some bs := by
          show some (if 0 ≤ (j : Int) then bs.set (j : Int).toNat true else bs) = some bs
          rw [if_pos h1, set_same bs _ true (.inl (by omega))]
        rw [e1, e2]
        have h2' : bs.length ≤ j := by omega
        clear e1 e2 h0
        go_enter Tryd.func18, Tryd.ntmps18
        go_wp2_with (go_at_call 38; refine (rok_s2 _ true _ hv.out).mono ?_; rintro e w' ⟨rfl, rfl⟩)
        go_ret
        exact ⟨rfl, hX.out.2.2, Kp.refl _ _⟩
      · have hj : j < bs.length := by omega
        obtain ⟨g, rfl, _, hc, hf⟩ := bool_at rfl hX.out.2.1 j hj
        have e2 : setO (some bs) (j : Int) true = some (bs.set j true) := by simp [setO]
        rw [e2]
        clear e2
        have h2' : ¬ bs.length ≤ j := by omega
        clear h0 h1 h2
        cases hb : bs.getD j false with
        | true =>
          rw [hb] at hc
          have e1 : addB (some bs) (j : Int) = false := by
            show (inO (some bs) j && !(decide (0 ≤ (j : Int)) && bs.getD (j : Int).toNat false)) = false
            rw [Int.toNat_natCast, hb]; simp
          rw [e1]
          have hs := Aside0.mk (set_same bs j true (.inr hb))
          clear e1 hb
          go_enter Tryd.func18, Tryd.ntmps18
          go_wp2_with (go_at_call 38; refine (rok_s2 _ true _ hv.out).mono ?_; rintro e w' ⟨rfl, rfl⟩)
          go_ret
          exact ⟨rfl, by rw [hs.out]; exact hX.out.2.2, Kp.refl _ _⟩
        | false =>
          rw [hb] at hc
          have e1 : addB (some bs) (j : Int) = true := by
            show ((decide (0 ≤ (j : Int)) && decide ((j : Int) < bs.length)) && !(decide (0 ≤ (j : Int)) && bs.getD (j : Int).toNat false)) = true
            rw [Int.toNat_natCast, hb]; simp [hj]
          rw [e1]
          have hs := Aside0.mk (RS.put hX.out.1 okp hX.out.2.1 hl j true)
          clear e1 hb
          go_enter Tryd.func18, Tryd.ntmps18
          go_wp2_with (go_at_call 38; refine (rok_s2 _ true _ hv.out).mono ?_; rintro e w' ⟨rfl, rfl⟩)
          go_ret
          exact ⟨rfl, RP.set_ hs.out.1, hs.out.2⟩
theorem rremove_any (v : Option Addr) (ok : Nat → Prop) (o : Option (List Bool)) (i : Int) (w : World) (h : RP w ok v o) :
    Calls Tryd.prog 19 #[.pointer v, .int .i64 i] w fun e w' => e = .returned (.bool (hasO o i)) ∧ RP w' ok v (setO o i false) ∧ Kp ok w w' := by
  have h' := Aside0.mk h
  cases hb : hasO o i with
  | false =>
    have hb' := Aside0.mk hb
    have e3 : setO o i false = o := by
      cases o with
      | none => rfl
      | some bs =>
        unfold setO
        by_cases h0 : 0 ≤ i
        · simp only [Option.map_some, if_pos h0]
          rw [set_same bs _ false (.inr (by simpa [hasO, h0] using hb))]
        · simp only [Option.map_some, if_neg h0]
    rw [e3]
    clear hb h e3
    go_enter Tryd.func19, Tryd.ntmps19
    go_wp2_with (go_at_call 20; refine (rhas_any v ok o i _ h'.out).mono ?_; rw [hb'.out]; rintro e w' ⟨rfl, rfl⟩)
    go_ret
    exact ⟨rfl, h'.out, Kp.refl _ _⟩
  | true =>
    rcases h.ex with ⟨rfl, rfl⟩ | ⟨p, bs, rfl, rfl, h3⟩
    · cases hb
    · have hb2 : (decide (0 ≤ i) && bs.getD i.toNat false) = true := hb
      simp only [Bool.and_eq_true, decide_eq_true_eq] at hb2
      obtain ⟨j, rfl⟩ := Int.eq_ofNat_of_zero_le hb2.1
      rw [Int.toNat_natCast] at hb2
      have hj : j < bs.length := by
        rcases Nat.lt_or_ge j bs.length with h5 | h5
        · exact h5
        · rw [getD_past bs j h5] at hb2; cases hb2.2
      obtain ⟨A, cc, hp, okp, hR, hl⟩ := h3.ex
      have c1 : w.cell? ⟨p, 1, none⟩ = some (.slice A bs.length cc) := cell_at hp rfl
      obtain ⟨g, rfl, _, hc, hf⟩ := bool_at rfl hR j hj
      rw [hb2.2] at hc
      have e2 : setO (some bs) (j : Int) false = some (bs.set j false) := by simp [setO]
      rw [e2]
      have hs := Aside0.mk (RS.put hp okp hR hl j false)
      have hb' := Aside0.mk hb
      clear hb hb2 h h3 hp hR e2
      go_enter Tryd.func19, Tryd.ntmps19
      go_wp2_with (go_at_call 20; refine (rhas_any _ ok (some bs) j _ h'.out).mono ?_; rw [hb'.out]; rintro e w' ⟨rfl, rfl⟩)
      go_ret
      exact ⟨rfl, RP.set_ hs.out.1, hs.out.2⟩

set_option maxHeartbeats 400000 in
theorem rof_any (n : Int) (A : Option Addr) (c : Nat) (l : List Int) (w : World) (hC : Kd.C (Kd.int .i64) w A l.length l) (hm : l.length ≤ 17592186044416) :
    Calls Tryd.prog 17 #[.int .i64 n, .slice A l.length c] w fun e w' => ∃ v, e = .returned (.pointer v) ∧ RP w' (fun k => w.heap.size ≤ k) v (ofO n l) ∧ Kp (fun _ => False) w w' := by
  have hC' := Aside0.mk hC
  clear hC
  go_enter Tryd.func17, Tryd.ntmps17
  go_wp2_with fail
  refine (rnew_any n w).mono ?_
  rintro e w1 ⟨v, rfl, hP, hK, _⟩
  have hI : Aside0 (RP w1 (fun k => w.heap.size ≤ k) v (addAll (newO n) (l.take 0)) ∧ Kp (fun k => w.heap.size ≤ k) w w1) := ⟨by simpa [addAll] using hP, hK.mono (fun _ h => h.elim)⟩
  clear hP hK
  go_wp2
  go_loopw [12] (fun i wr => ∃ k : Nat, k ≤ l.length ∧ i = .int .i64 k ∧ Aside0 (RP wr (fun k => w.heap.size ≤ k) v (addAll (newO n) (l.take k)) ∧ Kp (fun k => w.heap.size ≤ k) w wr)) (fun i _ => l.length - (intOf i).toNat)
  case atStart => exact ⟨0, Nat.zero_le _, rfl, hI⟩
  case round =>
    obtain ⟨k, hk, rfl, hI2⟩ := hrel
    by_cases hlt : k < l.length
    · obtain ⟨ad, rfl, hc⟩ := C_cellI (Kd.C_below hC'.out (hI2.out.2.below (fun _ h => h))) k hlt
      have hS := Aside0.mk (addAll_snoc (newO n) l k hlt)
      obtain ⟨x, hx⟩ : ∃ x, x = l.getD k 0 := ⟨_, rfl⟩
      rw [← hx] at hc hS
      clear hx
      go_wp2_with (go_at_call 18; refine (radd_any v _ _ x _ hI2.out.1).mono ?_; rintro e w2 ⟨rfl, hP2, hK2⟩; have hI3 := Aside0.mk (And.intro hP2 (hI2.out.2.then_ hK2 (fun k hk => .inl hk))); clear hP2 hK2)
      go_roundw
      case rel => exact ⟨k + 1, by omega, by go_num, by rw [hS.out]; exact hI3⟩
      case measure => simp [intOf]; omega
    · have hke : k = l.length := by omega
      subst hke
      go_wp2
      go_ret
      refine ⟨_, rfl, ?_, Kp.of_below (hI2.out.2.below (fun _ h => h)) _⟩
      have := hI2.out.1
      rwa [List.take_length] at this

theorem rcap_any (v : Option Addr) (ok : Nat → Prop) (o : Option (List Bool)) (w : World) (h : RP w ok v o) :
    Calls Tryd.prog 44 #[.pointer v] w fun e w' => e = .returned (.int .i64 ((o.getD []).length : Nat)) ∧ w = w' := by
  have hv := Aside0.mk h.vs
  rcases h.ex with ⟨rfl, rfl⟩ | ⟨p, bs, rfl, rfl, h3⟩
  · clear h
    go_enter Tryd.func44, Tryd.ntmps44
    go_wp2_with (go_at_call 38; refine (rok_s2 none false _ hv.out).mono ?_; rintro e w' ⟨rfl, rfl⟩)
    go_ret
    exact ⟨rfl, rfl⟩
  · obtain ⟨A, cc, hp, _⟩ := h3.ex
    have c1 : w.cell? ⟨p, 1, none⟩ = some (.slice A bs.length cc) := cell_at hp rfl
    clear hp h3 h
    go_enter Tryd.func44, Tryd.ntmps44
    go_wp2_with (go_at_call 38; refine (rok_s2 _ true _ hv.out).mono ?_; rintro e w' ⟨rfl, rfl⟩)
    go_ret
    exact ⟨rfl, rfl⟩

theorem own_emptyB (W : World) (e : Nat) (ok : Nat → Prop) (h : ok W.heap.size) : Kd.R Kd.bool e (W.alloc (.cells #[] e)) 0 ok (.slice (some ⟨W.heap.size, 0, none⟩) 0 0) [] := by
  refine ⟨fun k hk => ?_, [], World.ownsRow_made W #[] 0 (Nat.zero_le _) (Nat.zero_le _) rfl, Reps.none _ _⟩
  have : W.heap.size = k := by simpa [Value.ownBlock] using hk
  exact this ▸ h
set_option maxHeartbeats 400000 in
theorem rclone_any (v : Option Addr) (ok : Nat → Prop) (o : Option (List Bool)) (w : World) (h : RP w ok v o) :
    Calls Tryd.prog 27 #[.pointer v] w fun e w' => ∃ v2, e = .returned (.pointer v2) ∧ RP w' (fun k => w.heap.size ≤ k) v2 o ∧ Kp (fun _ => False) w w' := by
  have hv := Aside0.mk h.vs
  rcases h.ex with ⟨rfl, rfl⟩ | ⟨p, bs, rfl, rfl, h3⟩
  · clear h
    go_enter Tryd.func27, Tryd.ntmps27
    go_wp2_with (go_at_call 38; refine (rok_s2 none false _ hv.out).mono ?_; rintro e w' ⟨rfl, rfl⟩)
    go_ret
    exact ⟨_, rfl, RP.none_ _ _, Kp.refl _ _⟩
  · obtain ⟨A, cc, hp, okp, hR, hl⟩ := h3.ex
    have c1 : w.cell? ⟨p, 1, none⟩ = some (.slice A bs.length cc) := cell_at hp rfl
    have c2 : (w.alloc (.cells #[] 4)).cell? ⟨p, 1, none⟩ = some (.slice A bs.length cc) := cell_at ((Below.heap_alloc w _ p (blk_lt' hp)).trans hp) rfl
    have hC := Aside0.mk (R_readC hR).2.2
    clear hp hR h3 h
    go_enter Tryd.func27, Tryd.ntmps27
    go_wp2_with (first
      | (go_at_call 38; refine (rok_s2 _ true _ hv.out).mono ?_; rintro e w' ⟨rfl, rfl⟩)
      | (at_builtin; refine Kd.R_append_rows Kd.bool (Rr := fun x cs => cs = [.bool x]) (w0 := w.alloc (.cells #[] 4)) 0 (by rfl) (.tmp 6) (.tmp 10) 57 4 (.bool false) 1 (by rfl) Tryd.underlying57 infoB rfl (by decide) (by decide) (.slice (some ⟨w.heap.size, 0, none⟩) 0 0) [] bs A bs.length cc (fun k => w.heap.size ≤ k) (fun _ => False) (by rfl) (by rfl) (own_emptyB w 4 _ (Nat.le_refl _)) (Kd.C_alloc hC.out _) (fun _ _ h => h) (fun _ h => h.elim) (fun k hk => by simp at hk; omega) (Below.refl _ _) (Nat.zero_le _) (by simp; omega) ?_; intro v1 w2 hRA hBA hgA hatA; simp only [List.nil_append] at hRA; have H2 := Aside0.mk (And.intro hRA hgA); obtain ⟨A2, c2, rfl⟩ := Kd.R_slice hRA; clear hRA hBA hgA hatA))
    go_ret
    have hK : Kp (fun k => w.heap.size ≤ k) w w2 := by
      refine (((Kp.refl (fun k => w.heap.size ≤ k) w).alloc _).grown H2.out.2 (fun k hk => .inl ?_))
      have e5 : w.heap.size = k := by simpa [Value.ownBlock] using hk
      exact Nat.le_of_eq e5
    refine ⟨_, rfl, RP.set_ ⟨⟨A2, c2, heap_alloc_new w2 _, hK.size, ?_, hl⟩⟩, Kp.of_below ((hK.alloc _).below (fun _ h => h)) _⟩
    exact Kd.R_mono (Kd.R_alloc (Kd.R_bound H2.out.1) _) (fun k hk => ⟨hk.1, by have := hk.2.2.1; omega⟩)
end Go.Proofs.YtibjpamnkhnagaaDoor
