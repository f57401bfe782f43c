/- The reference's sets: Equal, All, Count. -/
import Derived.Test.YtibjpamnkhnagaaDoorRefC
set_option linter.unusedVariables false
set_option linter.unusedSimpArgs false
namespace Go.Proofs.YtibjpamnkhnagaaDoor
open Go.RowKit Go.Proofs.YtibjpamnkhnagaaDoorW.PrintWords Mem Bit

theorem requal_no (v u : Option Addr) (a b : Bool) (w : World) (h : VS w v a) (h2 : VS w u b) (hab : (a && b) = false) :
    Calls Tryd.prog 29 #[.pointer v, .pointer u] w fun e w' => e = .returned (.bool (a == b)) ∧ ∃ q, w' = w.drewN q := by
  have h' := Aside0.mk h
  have h2' := Aside0.mk h2
  clear h h2
  cases a <;> cases b
  · clear hab
    go_enter Tryd.func29, Tryd.ntmps29
    go_wp2_with (go_at_call 38; (first | with_reducible refine (rok_s2 v false _ h'.out).mono ?_ | with_reducible refine (rok_s2 u false _ h2'.out).mono ?_); rintro e w' ⟨rfl, rfl⟩)
    go_ret
    exact ⟨rfl, 0, rfl⟩
  · clear hab
    go_enter Tryd.func29, Tryd.ntmps29
    go_wp2_with (go_at_call 38; (first | with_reducible refine (rok_s2 v false _ h'.out).mono ?_ | with_reducible refine (rok_s2 u true _ h2'.out).mono ?_); rintro e w' ⟨rfl, rfl⟩)
    go_ret
    exact ⟨rfl, 0, rfl⟩
  · clear hab
    go_enter Tryd.func29, Tryd.ntmps29
    go_wp2_with (go_at_call 38; (first | with_reducible refine (rok_s2 v true _ h'.out).mono ?_ | with_reducible refine (rok_s2 u false _ h2'.out).mono ?_); rintro e w' ⟨rfl, rfl⟩)
    go_ret
    exact ⟨rfl, 0, rfl⟩
  · cases hab

theorem take_ne {bs cs : List Bool} (k : Nat) (h : bs.getD k false ≠ cs.getD k false) : bs ≠ cs := fun e => h (by rw [e])
theorem take_step {bs cs : List Bool} (hl : bs.length = cs.length) (k : Nat) (hk : k < bs.length) (ht : bs.take k = cs.take k) (he : bs.getD k false = cs.getD k false) : bs.take (k + 1) = cs.take (k + 1) := by
  rw [List.take_succ_eq_append_getElem hk, List.take_succ_eq_append_getElem (by omega), ht]
  rw [getD_lt bs k hk, getD_lt cs k (by omega)] at he
  rw [he]

set_option maxHeartbeats 1000000 in
theorem requal_two (p po : Nat) (ok ok2 : Nat → Prop) (bs cs : List Bool) (w : World) (hS : RS w ok p bs) (hO : RS w ok2 po cs) :
    Calls Tryd.prog 29 #[.pointer (some ⟨p, 0, none⟩), .pointer (some ⟨po, 0, none⟩)] w fun e w' => e = .returned (.bool (decide (bs = cs))) ∧ ∃ q, w' = w.drewN q := by
  obtain ⟨A1, cc, hp, okp, hR, hl⟩ := hS.ex
  obtain ⟨A2, c2, hq, okq, hRo, hl2⟩ := hO.ex
  have hv1 := Aside0.mk (RP.set_ hS).vs
  have hv2 := Aside0.mk (RP.set_ hO).vs
  have c1 : ∀ q, (w.drewN q).cell? ⟨p, 1, none⟩ = some (.slice A1 bs.length cc) := fun q => cell_at (w := w.drewN q) hp rfl
  have d1 : ∀ q, (w.drewN q).cell? ⟨po, 1, none⟩ = some (.slice A2 cs.length c2) := fun q => cell_at (w := w.drewN q) hq rfl
  have ca := c1 0
  have da := d1 0
  have hX := Aside0.mk (And.intro hR hRo)
  have hm1 : (bs.length : Int) ≤ 65536 := by omega
  by_cases hn : bs.length = cs.length
  · have e1 : (((bs.length : Nat) : Int) != ((cs.length : Nat) : Int)) = false := by rw [bne_eq_false_iff_eq]; omega
    have e2 : (bs.length != cs.length) = false := by rw [bne_eq_false_iff_eq]; omega
    have hn' := Aside0.mk hn
    clear hp hR hS hO hq hRo hn
    go_enter Tryd.func29, Tryd.ntmps29
    go_wp2_with (go_at_call 38; (first | with_reducible refine (rok_s2 (some ⟨p, 0, none⟩) true _ hv1.out).mono ?_ | with_reducible refine (rok_s2 (some ⟨po, 0, none⟩) true _ hv2.out).mono ?_); rintro e w' ⟨rfl, rfl⟩)
    go_quiet (fail)
    go_wp2
    go_loopw [35] (fun i wr => ∃ k q : Nat, k ≤ bs.length ∧ i = .int .i64 k ∧ wr = w.drewN q ∧ Aside0 (bs.take k = cs.take k)) (fun i _ => bs.length - (intOf i).toNat)
    case atStart => exact ⟨0, _, Nat.zero_le _, rfl, rfl, ⟨rfl⟩⟩
    case round =>
      obtain ⟨k, q, hk, rfl, rfl, hT⟩ := hrel
      by_cases hlt : k < bs.length
      · obtain ⟨g, rfl, _, h3, _⟩ := bool_at rfl hX.out.1 k hlt
        obtain ⟨g2, rfl, _, h4, _⟩ := bool_at rfl hX.out.2 k (by rw [← hn'.out]; exact hlt)
        have hk2 : (k : Int) < (cs.length : Int) := by rw [← hn'.out]; omega
        have hk3 : k < cs.length := by omega
        have hS := Aside0.mk (take_step hn'.out k hlt hT.out)
        have hNe := Aside0.mk (take_ne (bs := bs) (cs := cs) k)
        obtain ⟨sb, es⟩ : ∃ b, bs.getD k false = b := ⟨_, rfl⟩
        obtain ⟨ob, eo⟩ : ∃ b, cs.getD k false = b := ⟨_, rfl⟩
        rw [es] at h3 hS hNe
        rw [eo] at h4 hS hNe
        clear es eo
        cases sb <;> cases ob
        · go_wp2
          go_quiet (fail)
          go_wp2
          go_roundw
          case rel => first
            | exact ⟨k + 1, _, by omega, by go_num, rfl, ⟨hS.out rfl⟩⟩
            | exact ⟨k + 1, _, by omega, by go_num, rfl, ⟨hS.out trivial⟩⟩
          case measure => simp [intOf]; omega
        · have hne := hNe.out (by decide)
          have hf : decide (bs = cs) = false := decide_eq_false hne
          have hf' := Aside0.mk hf
          clear hne hf
          go_wp2
          go_quiet (fail)
          go_wp2
          go_ret
          refine ⟨?_, _, World.drewN_drewN _ _ _⟩
          rw [hf'.out]
          first | done | rfl
        · have hne := hNe.out (by decide)
          have hf : decide (bs = cs) = false := decide_eq_false hne
          have hf' := Aside0.mk hf
          clear hne hf
          go_wp2
          go_quiet (fail)
          go_wp2
          go_ret
          refine ⟨?_, _, World.drewN_drewN _ _ _⟩
          rw [hf'.out]
          first | done | rfl
        · go_wp2
          go_quiet (fail)
          go_wp2
          go_roundw
          case rel => first
            | exact ⟨k + 1, _, by omega, by go_num, rfl, ⟨hS.out rfl⟩⟩
            | exact ⟨k + 1, _, by omega, by go_num, rfl, ⟨hS.out trivial⟩⟩
          case measure => simp [intOf]; omega
      · have hke : k = bs.length := by omega
        subst hke
        go_wp2
        go_ret
        refine ⟨?_, q, rfl⟩
        have h5 := hT.out
        rw [List.take_length, hn'.out, List.take_length] at h5
        rw [decide_eq_true h5]
        rfl
  · have e1 : (((bs.length : Nat) : Int) != ((cs.length : Nat) : Int)) = true := by rw [bne_iff_ne]; omega
    have e2 : (bs.length != cs.length) = true := by rw [bne_iff_ne]; omega
    have hf : decide (bs = cs) = false := decide_eq_false (fun h => hn (by rw [h]))
    rw [hf]
    clear hp hR hS hO hq hRo hn hf
    go_enter Tryd.func29, Tryd.ntmps29
    go_wp2_with (go_at_call 38; (first | with_reducible refine (rok_s2 (some ⟨p, 0, none⟩) true _ hv1.out).mono ?_ | with_reducible refine (rok_s2 (some ⟨po, 0, none⟩) true _ hv2.out).mono ?_); rintro e w' ⟨rfl, rfl⟩)
    go_quiet (fail)
    go_wp2
    go_ret
    exact ⟨rfl, _, rfl⟩
theorem requal_any (v u : Option Addr) (ok ok2 : Nat → Prop) (o1 o2 : Option (List Bool)) (w : World) (h1 : RP w ok v o1) (h2 : RP w ok2 u o2) :
    Calls Tryd.prog 29 #[.pointer v, .pointer u] w fun e w' => e = .returned (.bool (decide (o1 = o2))) ∧ ∃ q, w' = w.drewN q := by
  rcases h1.ex with ⟨rfl, rfl⟩ | ⟨p, bs, rfl, rfl, hB⟩
  · rcases h2.ex with ⟨rfl, rfl⟩ | ⟨po, cs, rfl, rfl, hC⟩
    · exact requal_no none none false false w h1.vs h2.vs rfl
    · refine (requal_no none _ false true w h1.vs h2.vs rfl).mono ?_
      rintro e w' ⟨rfl, h⟩
      exact ⟨by rw [decide_eq_false (by simp)]; rfl, h⟩
  · rcases h2.ex with ⟨rfl, rfl⟩ | ⟨po, cs, rfl, rfl, hC⟩
    · refine (requal_no _ none true false w h1.vs h2.vs rfl).mono ?_
      rintro e w' ⟨rfl, h⟩
      exact ⟨by rw [decide_eq_false (by simp)]; rfl, h⟩
    · refine (requal_two p po ok ok2 bs cs w hB hC).mono ?_
      rintro e w' ⟨rfl, h⟩
      refine ⟨?_, h⟩
      congr 2
      rw [Bool.eq_iff_iff]
      simp

/-- All of the reference. -/
theorem elemsTo_hit (bs : List Bool) (k : Nat) (h : bs.getD k false = true) : elemsTo bs (k + 1) = elemsTo bs k ++ [(k : Int)] := by rw [elemsTo_succ, h]; rfl
theorem elemsTo_miss (bs : List Bool) (k : Nat) (h : bs.getD k false = false) : elemsTo bs (k + 1) = elemsTo bs k := by rw [elemsTo_succ, h]; simp
set_option maxHeartbeats 1000000 in
theorem rall_any (v : Option Addr) (ok : Nat → Prop) (o : Option (List Bool)) (w : World) (h : RP w ok v o) (hok : ∀ k, ok k → k < w.heap.size) :
    Calls Tryd.prog 46 #[.pointer v] w fun e w' => ∃ u, e = .returned u ∧ Kd.R (Kd.int .i64) 3 w' 0 (fun k => w.heap.size ≤ k) u (elemsO o) ∧ Below w.heap.size w w' := by
  have hP := Aside0.mk h
  rcases h.ex with ⟨rfl, rfl⟩ | ⟨p, bs, rfl, rfl, hB⟩
  · clear h
    go_enter Tryd.func46, Tryd.ntmps46
    go_wp2
    go_loop [3, 4] (fun l i => l = .slice none 0 0 ∧ i = .int .i64 0) (fun _ _ => 0)
    case atStart => exact ⟨rfl, rfl⟩
    case round =>
      obtain ⟨rfl, rfl⟩ := hrel
      go_wp2_with (go_at_call 44; refine (rcap_any none ok none _ hP.out).mono ?_; rw [show ((none : Option (List Bool)).getD []).length = 0 from rfl]; rintro e w' ⟨rfl, rfl⟩)
      go_ret
      exact ⟨_, rfl, Kd.R_nil _ _ _ _ _, Below.refl _ _⟩
  · obtain ⟨A, cc, hp, okp, hR, hl⟩ := hB.ex
    have hX := Aside0.mk (And.intro hp (And.intro hR (And.intro hok okp)))
    have hpl : p < w.heap.size := blk_lt' hp
    have hm1 : (bs.length : Int) ≤ 65536 := by omega
    clear hp hR hB h hok okp
    go_enter Tryd.func46, Tryd.ntmps46
    go_wp2
    go_loopw [3, 4] (fun l i wr => ∃ k : Nat, ∃ A' c', k ≤ bs.length ∧ i = .int .i64 k ∧ l = .slice A' (elemsTo bs k).length c' ∧ Aside0 (Kd.R (Kd.int .i64) 3 wr 0 (fun k => w.heap.size ≤ k) l (elemsTo bs k) ∧ Below w.heap.size w wr)) (fun _ i _ => bs.length - (intOf i).toNat)
    case atStart => exact ⟨0, none, 0, Nat.zero_le _, rfl, rfl, ⟨Kd.R_nil _ _ _ _ _, Below.refl _ _⟩⟩
    case round =>
      obtain ⟨k, A', c', hk, rfl, rfl, hI⟩ := hrel
      have hPr : Aside0 (RP wr ok (some ⟨p, 0, none⟩) (some bs)) := ⟨hP.out.step (fun k hk _ => hI.out.2.block k (hX.out.2.2.1 k hk))⟩
      by_cases hlt : k < bs.length
      · have hc1 : wr.cell? ⟨p, 1, none⟩ = some (.slice A bs.length cc) := cell_at ((hI.out.2.block p hpl).trans hX.out.1) rfl
        have hRw := Kd.R_step hX.out.2.1 (w1 := wr) (fun k hk _ => hI.out.2.block k (hX.out.2.2.1 k hk.1))
        obtain ⟨g, rfl, _, h3, _⟩ := bool_at rfl hRw k hlt
        have hen := elemsTo_length bs k
        obtain ⟨sb, es⟩ : ∃ b, bs.getD k false = b := ⟨_, rfl⟩
        rw [es] at h3
        have es' := Aside0.mk es
        clear hRw es
        cases sb
        · have hE := Aside0.mk (elemsTo_miss bs k es'.out)
          go_wp2_with (go_at_call 44; refine (rcap_any _ ok (some bs) _ hPr.out).mono ?_; rw [show ((some bs).getD []).length = bs.length from rfl]; rintro e w' ⟨rfl, rfl⟩)
          go_roundw
          case rel => exact ⟨k + 1, A', c', by omega, by go_num, by rw [hE.out], by rw [hE.out]; exact hI⟩
          case measure => simp [intOf]; omega
        · have hE := Aside0.mk (elemsTo_hit bs k es'.out)
          obtain ⟨L, hL⟩ : ∃ L, L = elemsTo bs k := ⟨_, rfl⟩
          rw [← hL] at hI hE hen
          have hLx := Aside0.mk hL
          rw [← hL]
          clear hL
          go_wp2_with (first
            | (go_at_call 44; refine (rcap_any _ ok (some bs) _ hPr.out).mono ?_; rw [show ((some bs).getD []).length = bs.length from rfl]; rintro e w' ⟨rfl, rfl⟩)
            | (at_builtin; refine Kd.R_append (Kd.int .i64) (w0 := wr) 0 (by rfl) (.tmp 18) (.tmp 20) 22 3 (.int .i64 0) 8 (by rfl) Tryd.underlying22 info3 rfl (by decide) (by decide) (.slice A' L.length c') L (k : Int) [.int .i64 k] (fun k => w.heap.size ≤ k) (fun _ => False) (by rfl) (by rfl) rfl (fun _ h => h.elim) (fun j hj => by have := hI.out.2.size; omega) hI.out.1 (Below.refl _ _) (Nat.zero_le _) (by omega) ?_; intro v1 w1 hR1 hB1 hg1 hat1; have hJ := Aside0.mk (And.intro hR1 hg1); obtain ⟨A1, c1, rfl⟩ := Kd.R_slice hR1; clear hR1 hB1 hg1 hat1))
          have hBb : Below w.heap.size w w1 := by
            refine (((Kp.of_below hI.out.2 (fun k => w.heap.size ≤ k))).grown hJ.out.2 (fun j hj => .inl ?_)).below (fun _ h => h)
            exact hI.out.1.1 j hj
          have hBx := Aside0.mk hBb
          have hJ1 := hJ.out.1
          rw [List.length_append, List.length_singleton] at hJ1
          have hJ2 := Aside0.mk hJ1
          clear hBb hJ1
          go_roundw
          case rel => exact ⟨k + 1, A1, c1, by omega, by go_num, by rw [hE.out]; simp, by rw [hE.out]; exact ⟨hJ2.out, hBx.out⟩⟩
          case measure => simp [intOf]; omega
      · have hke : k = bs.length := by omega
        subst hke
        go_wp2_with (go_at_call 44; refine (rcap_any _ ok (some bs) _ hPr.out).mono ?_; rw [show ((some bs).getD []).length = bs.length from rfl]; rintro e w' ⟨rfl, rfl⟩)
        go_ret
        exact ⟨_, rfl, hI.out.1, hI.out.2⟩
theorem rcount_any (v : Option Addr) (ok : Nat → Prop) (o : Option (List Bool)) (w : World) (h : RP w ok v o) (hok : ∀ k, ok k → k < w.heap.size) :
    Calls Tryd.prog 45 #[.pointer v] w fun e w' => e = .returned (.int .i64 ((elemsO o).length : Nat)) ∧ Below w.heap.size w w' := by
  have h' := Aside0.mk (And.intro h hok)
  clear h hok
  go_enter Tryd.func45, Tryd.ntmps45
  go_wp2_with fail
  refine (rall_any v ok o w h'.out.1 h'.out.2).mono ?_
  rintro e w1 ⟨u, rfl, hR, hB⟩
  obtain ⟨A', c', rfl⟩ := Kd.R_slice hR
  have hB' := Aside0.mk hB
  clear hR hB
  go_wp2
  go_ret
  exact ⟨rfl, hB'.out⟩
end Go.Proofs.YtibjpamnkhnagaaDoor
