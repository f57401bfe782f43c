/- The reference's sets: Union, Subtract, Intersect. -/
import Derived.Test.YtibjpamnkhnagaaDoorRefB
set_option linter.unusedVariables false
set_option linter.unusedSimpArgs false
namespace Go.Proofs.YtibjpamnkhnagaaDoor
open Go.RowKit Go.Proofs.YtibjpamnkhnagaaDoorW.PrintWords Mem Bit

def curB (ns bs : List Bool) (k : Nat) : List Bool := ns.take k ++ bs.drop k
def chgB (ns bs : List Bool) (k : Nat) : Bool := decide (ns.take k ≠ bs.take k)
theorem curB_length {ns bs : List Bool} (h : ns.length = bs.length) (k : Nat) : (curB ns bs k).length = bs.length := by
  unfold curB
  rw [List.length_append, List.length_take, List.length_drop, h]
  omega
theorem curB_get {ns bs : List Bool} (h : ns.length = bs.length) (k : Nat) (hk : k < bs.length) : (curB ns bs k).getD k false = bs.getD k false := by
  unfold curB
  rw [List.getD_eq_getElem?_getD, List.getElem?_append_right (by rw [List.length_take, h]; omega), List.length_take, h, List.getElem?_drop, List.getD_eq_getElem?_getD]
  have : k + (k - min k bs.length) = k := by omega
  rw [this]
theorem curB_set {ns bs : List Bool} (h : ns.length = bs.length) (k : Nat) (hk : k < bs.length) : (curB ns bs k).set k (ns.getD k false) = curB ns bs (k + 1) := by
  have h1 : k < ns.length := by omega
  unfold curB
  rw [List.take_succ_eq_append_getElem h1, List.drop_eq_getElem_cons hk, List.set_append]
  have h3 : (ns.take k).length = k := by rw [List.length_take]; omega
  rw [if_neg (by omega), h3, Nat.sub_self, List.set_cons_zero, List.append_assoc, getD_lt ns k h1]
  rfl
theorem curB_same {ns bs : List Bool} (h : ns.length = bs.length) (k : Nat) (hk : k < bs.length) (he : ns.getD k false = bs.getD k false) : curB ns bs k = curB ns bs (k + 1) := by
  rw [← curB_set h k hk, he, ← curB_get h k hk, set_same _ _ _ (.inr rfl)]
theorem chgB_succ {ns bs : List Bool} (h : ns.length = bs.length) (k : Nat) (hk : k < bs.length) : chgB ns bs (k + 1) = (chgB ns bs k || (ns.getD k false != bs.getD k false)) := by
  have h1 : k < ns.length := by omega
  unfold chgB
  rw [List.take_succ_eq_append_getElem h1, List.take_succ_eq_append_getElem hk, getD_lt ns k h1, getD_lt bs k hk]
  have hl : (ns.take k).length = (bs.take k).length := by rw [List.length_take, List.length_take]; omega
  rw [Bool.eq_iff_iff]
  simp only [decide_eq_true_eq, Bool.or_eq_true, bne_iff_ne, ne_eq]
  constructor
  · intro h3
    by_cases h4 : ns.take k = bs.take k
    · refine .inr (fun h5 => h3 ?_)
      rw [h4, h5]
    · exact .inl h4
  · rintro (h3 | h3) h4
    · exact h3 (List.append_inj h4 hl).1
    · have := (List.append_inj h4 hl).2
      exact h3 (by simpa using this)

structure MidB (w wr : World) (ok : Nat → Prop) (p g cc : Nat) (ns bs : List Bool) (k : Nat) : Prop where
  hp : wr.heap[p]? = some (.cells #[.bool true, .slice (some ⟨g, 0, none⟩) bs.length cc] 59 (0, 0))
  hR : Kd.R Kd.bool 4 wr 0 (fun b => ok b ∧ b ≠ p) (.slice (some ⟨g, 0, none⟩) bs.length cc) (curB ns bs k)
  hK : Kp (fun b => b = g) w wr
theorem MidB.at_ {w wr : World} {ok : Nat → Prop} {p g cc : Nat} {ns bs : List Bool} {k : Nat} (h : MidB w wr ok p g cc ns bs k) (hl : ns.length = bs.length) (hk : k < bs.length) :
    wr.cell? ⟨g, k, none⟩ = some (.bool (bs.getD k false)) ∧ wr.frozen? ⟨g, k, none⟩ = false := by
  obtain ⟨g', e, _, h1, h2⟩ := bool_at (curB_length hl k).symm h.hR k (by rw [curB_length hl]; exact hk)
  have e' : g = g' := by simpa using e
  subst e'
  rw [curB_get hl k hk] at h1
  exact ⟨h1, h2⟩
theorem MidB.next {w wr : World} {ok : Nat → Prop} {p g cc : Nat} {ns bs : List Bool} {k : Nat} (h : MidB w wr ok p g cc ns bs k) (hl : ns.length = bs.length) (hk : k < bs.length) (q : Nat) :
    MidB w ((wr.drewN q).setCell ⟨g, k, none⟩ (.bool (ns.getD k false))) ok p g cc ns bs (k + 1) := by
  have hg : ok g ∧ g ≠ p := h.hR.1 g (by simp [Value.ownBlock])
  have h2 := Kd.R_putn (Kd.R_drewN h.hR q) (k : Int) (ns.getD k false)
  rw [Int.toNat_natCast, curB_set hl k hk] at h2
  exact ⟨(Below.heap_setCell (wr.drewN q) ⟨g, k, none⟩ _ p (fun e => hg.2 e.symm)).trans h.hp, h2, (h.hK.drewN q).setCell (.inl rfl) _⟩
theorem MidB.stay {w wr : World} {ok : Nat → Prop} {p g cc : Nat} {ns bs : List Bool} {k : Nat} (h : MidB w wr ok p g cc ns bs k) (hl : ns.length = bs.length) (hk : k < bs.length) (q : Nat) (he : ns.getD k false = bs.getD k false) :
    MidB w (wr.drewN q) ok p g cc ns bs (k + 1) := ⟨h.hp, by rw [← curB_same hl k hk he]; exact Kd.R_drewN h.hR q, h.hK.drewN q⟩
theorem MidB.other {w wr : World} {ok ok2 : Nat → Prop} {p g cc po go_ c2 : Nat} {ns bs cs : List Bool} {k : Nat} (h : MidB w wr ok p g cc ns bs k) (hl : ns.length = bs.length) (hlc : bs.length = cs.length)
    (hq : w.heap[po]? = some (.cells #[.bool true, .slice (some ⟨go_, 0, none⟩) cs.length c2] 59 (0, 0)))
    (hRo : Kd.R Kd.bool 4 w 0 (fun b => ok2 b ∧ b ≠ po) (.slice (some ⟨go_, 0, none⟩) cs.length c2) cs)
    (hpo : po ≠ g) (hgo : go_ ≠ g ∨ cs = bs ∧ go_ = g) (hk : k < bs.length) :
    wr.cell? ⟨po, 1, none⟩ = some (.slice (some ⟨go_, 0, none⟩) bs.length c2) ∧ wr.cell? ⟨go_, k, none⟩ = some (.bool (cs.getD k false)) := by
  have h1 : wr.heap[po]? = w.heap[po]? := h.hK.block (blk_lt' hq) hpo
  constructor
  · rw [hlc]; exact cell_at (h1.trans hq) rfl
  · rcases hgo with hgo | ⟨rfl, rfl⟩
    · obtain ⟨g', e, _, h3, _⟩ := bool_at rfl hRo k (by omega)
      have e' : go_ = g' := by simpa using e
      subst e'
      have h4 : go_ < w.heap.size := World.block_lt_of_cell? w ⟨go_, k, none⟩ h3
      have h5 := h.hK.block h4 hgo
      simp only [World.cell?, h5] at h3 ⊢
      exact h3
    · exact (h.at_ hl hk).1

/-- fits. -/
theorem rfits_no1 (v u : Option Addr) (w : World) (h : VS w v false) : Calls Tryd.prog 41 #[.pointer v, .pointer u] w fun e w' => e = .returned (.bool false) ∧ ∃ q, w' = w.drewN q := by
  have h' := Aside0.mk h
  clear h
  go_enter Tryd.func41, Tryd.ntmps41
  go_wp2
  go_quiet ((go_at_call 38; exact Calls.quiet_of_same (rok_st v false _ (h'.out.drewN _))))
  go_wp2
  go_ret
  exact ⟨rfl, _, rfl⟩
theorem rfits_no2 (v u : Option Addr) (w : World) (h : VS w v true) (h2 : VS w u false) : Calls Tryd.prog 41 #[.pointer v, .pointer u] w fun e w' => e = .returned (.bool false) ∧ ∃ q, w' = w.drewN q := by
  have h' := Aside0.mk h
  have h2' := Aside0.mk h2
  clear h h2
  go_enter Tryd.func41, Tryd.ntmps41
  go_wp2
  go_quiet ((go_at_call 38; (first | with_reducible exact Calls.quiet_of_same (rok_st v true _ (h'.out.drewN _)) | with_reducible exact Calls.quiet_of_same (rok_st u false _ (h2'.out.drewN _)))))
  go_wp2
  go_ret
  exact ⟨rfl, _, rfl⟩
theorem rfits_two (p po : Nat) (A1 A2 : Option Addr) (a b c1 c2 : Nat) (r : Bool) (w : World) (c0 : w.cell? ⟨p, 0, none⟩ = some (.bool true)) (d0 : w.cell? ⟨po, 0, none⟩ = some (.bool true))
    (ca : w.cell? ⟨p, 1, none⟩ = some (.slice A1 a c1)) (da : w.cell? ⟨po, 1, none⟩ = some (.slice A2 b c2)) (hr : (a == b) = r) :
    Calls Tryd.prog 41 #[.pointer (some ⟨p, 0, none⟩), .pointer (some ⟨po, 0, none⟩)] w fun e w' => e = .returned (.bool r) ∧ ∃ q, w' = w.drewN q := by
  have hv : VS w (some ⟨p, 0, none⟩) true := .inr ⟨p, rfl, c0⟩
  have hu : VS w (some ⟨po, 0, none⟩) true := .inr ⟨po, rfl, d0⟩
  have h' := Aside0.mk hv
  have h2' := Aside0.mk hu
  have hr2 : ((a : Int) == (b : Int)) = r := by
    rw [← hr, Bool.eq_iff_iff]
    simp
    omega
  clear hv hu
  go_enter Tryd.func41, Tryd.ntmps41
  go_wp2
  go_quiet ((go_at_call 38; (first | with_reducible exact Calls.quiet_of_same (rok_st (some ⟨p, 0, none⟩) true _ (h'.out.drewN _)) | with_reducible exact Calls.quiet_of_same (rok_st (some ⟨po, 0, none⟩) true _ (h2'.out.drewN _)))))
  go_wp2
  go_ret
  exact ⟨rfl, _, rfl⟩
theorem rtwo {w : World} {ok ok2 : Nat → Prop} {v u : Option Addr} {o1 o2 : Option (List Bool)} (h1 : RP w ok v o1) (h2 : RP w ok2 u o2) (hf : fitO o1 o2 = true) :
    ∃ p po bs cs, v = some ⟨p, 0, none⟩ ∧ u = some ⟨po, 0, none⟩ ∧ o1 = some bs ∧ o2 = some cs ∧ RS w ok p bs ∧ RS w ok2 po cs ∧ bs.length = cs.length := by
  rcases h1.ex with ⟨_, rfl⟩ | ⟨p, bs, rfl, rfl, hB⟩
  · simp [fitO] at hf
  · rcases h2.ex with ⟨_, rfl⟩ | ⟨po, cs, rfl, rfl, hC⟩
    · simp [fitO] at hf
    · exact ⟨p, po, bs, cs, rfl, rfl, rfl, rfl, hB, hC, by simpa [fitO] using hf⟩
theorem rfits_any (v u : Option Addr) (ok ok2 : Nat → Prop) (o1 o2 : Option (List Bool)) (w : World) (h1 : RP w ok v o1) (h2 : RP w ok2 u o2) :
    Calls Tryd.prog 41 #[.pointer v, .pointer u] w fun e w' => e = .returned (.bool (fitO o1 o2)) ∧ ∃ q, w' = w.drewN q := by
  cases o1 with
  | none => exact rfits_no1 v u w h1.vs
  | some bs =>
    cases o2 with
    | none => exact rfits_no2 v u w h1.vs h2.vs
    | some cs =>
      rcases h1.ex with ⟨_, h⟩ | ⟨p, bs', rfl, h, hB⟩
      · cases h
      · obtain rfl : bs = bs' := Option.some.inj h
        rcases h2.ex with ⟨_, h⟩ | ⟨po, cs', rfl, h, hC⟩
        · cases h
        · obtain rfl : cs = cs' := Option.some.inj h
          obtain ⟨A1, cc, hp, _⟩ := hB.ex
          obtain ⟨A2, cc2, hq, _⟩ := hC.ex
          exact rfits_two p po A1 A2 bs.length cs.length cc cc2 _ w (cell_at hp rfl) (cell_at hq rfl) (cell_at hp rfl) (cell_at hq rfl) (by show (bs.length == cs.length) = decide (bs.length = cs.length); rw [Bool.eq_iff_iff]; simp)

theorem rUnion_no (v u : Option Addr) (ok ok2 : Nat → Prop) (o1 o2 : Option (List Bool)) (w : World) (h1 : RP w ok v o1) (h2 : RP w ok2 u o2) (hf : fitO o1 o2 = false) :
    Calls Tryd.prog 22 #[.pointer v, .pointer u] w fun e w' => e = .returned (.bool false) ∧ ∃ q, w' = w.drewN q := by
  have h1' := Aside0.mk h1
  have h2' := Aside0.mk h2
  have hf' := Aside0.mk hf
  clear h1 h2 hf
  go_enter Tryd.func22, Tryd.ntmps22
  go_wp2
  go_loop [5, 6] (fun c i => c = .bool false ∧ i = .int .i64 0) (fun _ _ => 0)
  case atStart => exact ⟨rfl, rfl⟩
  case round =>
    obtain ⟨rfl, rfl⟩ := hrel
    go_wp2_with fail
    refine (rfits_any v u ok ok2 o1 o2 w h1'.out h2'.out).mono ?_
    rw [hf'.out]
    rintro e w' ⟨rfl, q, rfl⟩
    go_wp2
    go_ret
    exact ⟨rfl, q, rfl⟩
theorem rUnion_zero (p : Nat) (u : Option Addr) (ok ok2 : Nat → Prop) (o2 : Option (List Bool)) (w : World) (h1 : RP w ok (some ⟨p, 0, none⟩) (some [])) (h2 : RP w ok2 u o2) (hf : fitO (some []) o2 = true) :
    Calls Tryd.prog 22 #[.pointer (some ⟨p, 0, none⟩), .pointer u] w fun e w' => e = .returned (.bool false) ∧ ∃ q, w' = w.drewN q := by
  have hc : ∃ A cc, w.cell? ⟨p, 1, none⟩ = some (.slice A 0 cc) := by
    rcases h1.ex with ⟨h, _⟩ | ⟨p', bs, h, hb, hB⟩
    · cases h
    · obtain rfl : p = p' := by simpa using h
      obtain rfl : [] = bs := Option.some.inj hb
      obtain ⟨A, cc, hp, _⟩ := hB.ex
      exact ⟨A, cc, cell_at hp rfl⟩
  obtain ⟨A, cc, hc⟩ := hc
  have h1' := Aside0.mk h1
  have h2' := Aside0.mk h2
  have hf' := Aside0.mk hf
  clear h1 h2 hf
  go_enter Tryd.func22, Tryd.ntmps22
  go_wp2
  go_loop [5, 6] (fun c i => c = .bool false ∧ i = .int .i64 0) (fun _ _ => 0)
  case atStart => exact ⟨rfl, rfl⟩
  case round =>
    obtain ⟨rfl, rfl⟩ := hrel
    go_wp2_with fail
    refine (rfits_any _ u ok ok2 _ o2 w h1'.out h2'.out).mono ?_
    rw [hf'.out]
    rintro e w' ⟨rfl, q, rfl⟩
    go_wp2
    go_ret
    exact ⟨rfl, q, rfl⟩
set_option maxHeartbeats 1000000 in
theorem rUnion_yes (p po : Nat) (ok ok2 : Nat → Prop) (bs cs : List Bool) (w : World) (hS : RS w ok p bs) (hO : RS w ok2 po cs) (hlc : bs.length = cs.length) (hpos : 0 < bs.length) (hal : (∀ k, ok2 k → ¬ ok k) ∨ po = p ∧ cs = bs) :
    Calls Tryd.prog 22 #[.pointer (some ⟨p, 0, none⟩), .pointer (some ⟨po, 0, none⟩)] w fun e w' =>
      e = .returned (.bool (decide (zipB .or bs cs ≠ bs))) ∧ RS w' ok p (zipB .or bs cs) ∧ Kp ok w w' := by
  obtain ⟨A1, cc, hp, okp, hR, hl⟩ := hS.ex
  obtain ⟨A2, c2, hq, okq, hRo, hl2⟩ := hO.ex
  obtain ⟨g, rfl, hgo1, _, _⟩ := bool_at rfl hR 0 hpos
  obtain ⟨go_, rfl, hgq, _, _⟩ := bool_at rfl hRo 0 (by omega)
  have hg : ok g ∧ g ≠ p := hgo1
  have hpo : po ≠ g := by
    rcases hal with h | ⟨rfl, rfl⟩
    · exact fun e => h po okq (e ▸ hg.1)
    · exact fun e => hg.2 e.symm
  have hgo : go_ ≠ g ∨ cs = bs ∧ go_ = g := by
    rcases hal with h | ⟨rfl, rfl⟩
    · exact .inl (fun e => h go_ hgq.1 (e ▸ hg.1))
    · rw [hp] at hq
      simp at hq
      exact .inr ⟨rfl, hq.1.symm⟩
  obtain ⟨ns, hns⟩ : ∃ ns, ns = zipB .or bs cs := ⟨_, rfl⟩
  rw [← hns]
  have hln : ns.length = bs.length := by rw [hns, zipB_length _ _ _ hlc]
  have hnz : ∀ k, ns.getD k false = bop .or (bs.getD k false) (cs.getD k false) := fun k => by rw [hns, zipB_getD _ _ _ hlc]
  have M0 : MidB w w ok p g cc ns bs 0 := ⟨hp, by show Kd.R _ _ _ _ _ _ ([] ++ bs.drop 0); rw [List.drop_zero, List.nil_append]; exact hR, Kp.refl _ _⟩
  have hend : Aside0 (curB ns bs bs.length = ns ∧ chgB ns bs bs.length = decide (ns ≠ bs)) := by
    refine ⟨?_, ?_⟩
    · unfold curB; rw [List.take_of_length_le (by omega), List.drop_of_length_le (by omega), List.append_nil]
    · unfold chgB; rw [List.take_of_length_le (by omega), List.take_of_length_le (by omega)]
  have hX := Aside0.mk (And.intro hq (And.intro hRo (And.intro hpo (And.intro hgo (And.intro hlc (And.intro hnz (And.intro hln (And.intro okp hg))))))))
  have M0' := Aside0.mk M0
  have hm1 : (bs.length : Int) ≤ 65536 := by omega
  obtain ⟨m, hm⟩ : ∃ m, m = bs.length := ⟨_, rfl⟩
  have hmx := Aside0.mk hm
  rw [← hm] at hm1 hend
  clear hp hR hS hO hq hRo hg hgq hpo hgo hal hns hln hnz M0 hlc hm okp okq hgo1 hpos hl hl2
  go_enter Tryd.func22, Tryd.ntmps22
  go_wp2
  go_loopw [5, 6] (fun c i wr => ∃ k : Nat, k ≤ m ∧ i = .int .i64 k ∧ c = .bool (chgB ns bs k) ∧ Aside0 (MidB w wr ok p g cc ns bs k)) (fun _ i _ => m - (intOf i).toNat)
  case atStart => exact ⟨0, Nat.zero_le _, rfl, by simp [chgB], M0'⟩
  case round =>
    obtain ⟨k, hk, rfl, rfl, hM⟩ := hrel
    have q0 : wr.cell? ⟨p, 0, none⟩ = some (.bool true) := cell_at hM.out.hp rfl
    have q1 : wr.cell? ⟨p, 1, none⟩ = some (.slice (some ⟨g, 0, none⟩) m cc) := by rw [hmx.out]; exact cell_at hM.out.hp rfl
    have hbl : wr.heap[po]? = w.heap[po]? := hM.out.hK.block (blk_lt' hX.out.1) hX.out.2.2.1
    have q2 : wr.cell? ⟨po, 0, none⟩ = some (.bool true) := cell_at (hbl.trans hX.out.1) rfl
    have q3 : wr.cell? ⟨po, 1, none⟩ = some (.slice (some ⟨go_, 0, none⟩) m c2) := by rw [hmx.out, hX.out.2.2.2.2.1]; exact cell_at (hbl.trans hX.out.1) rfl
    have hfit := Aside0.mk (rfits_two p po _ _ m m cc c2 true wr q0 q2 q1 q3 (by simp))
    clear hbl q0 q2
    by_cases hlt : k < m
    · have hkm : k < bs.length := by rw [← hmx.out]; exact hlt
      have hln := hX.out.2.2.2.2.2.2.1
      have r2 := (hM.out.at_ hln hkm).1
      have r3 := (hM.out.at_ hln hkm).2
      have r5 := (hM.out.other hln hX.out.2.2.2.2.1 hX.out.1 hX.out.2.1 hX.out.2.2.1 hX.out.2.2.2.1 hkm).2
      have hz := hX.out.2.2.2.2.2.1 k
      have hC1 := chgB_succ hln k hkm
      have hNx := Aside0.mk (fun q => hM.out.next hln hkm q)
      have hSt := Aside0.mk (fun q => hM.out.stay hln hkm q)
      rw [hz] at hC1
      rw [hz] at hNx hSt
      obtain ⟨sb, es⟩ : ∃ b, bs.getD k false = b := ⟨_, rfl⟩
      obtain ⟨ob, eo⟩ : ∃ b, cs.getD k false = b := ⟨_, rfl⟩
      rw [es] at r2 hC1 hNx hSt
      rw [eo] at r5 hC1 hNx hSt
      clear es eo hz hkm hln
      have hki : (k : Int) ≤ 65536 := by omega
      cases sb <;> cases ob
      all_goals
        simp only [bop, Bool.or_false, Bool.or_true, Bool.and_false, Bool.and_true, Bool.not_true, Bool.not_false, bne_self_eq_false, Bool.or_self, Bool.and_self, show (true != false) = true from rfl, show (false != true) = true from rfl] at hC1 hNx hSt
        have hC2 := Aside0.mk hC1
        clear hC1
        go_wp2_with fail
        refine hfit.out.mono ?_
        rintro e w' ⟨rfl, q, rfl⟩
        go_wp2
        go_roundw
        case rel => first
          | exact ⟨k + 1, by omega, by go_num, by rw [hC2.out], ⟨hSt.out q trivial⟩⟩
          | exact ⟨k + 1, by omega, by go_num, by rw [hC2.out], ⟨hSt.out q rfl⟩⟩
          | exact ⟨k + 1, by omega, by go_num, by rw [hC2.out], ⟨hNx.out q⟩⟩
        case measure => simp [intOf]; omega
    · have hke : k = m := by omega
      subst hke
      go_wp2_with fail
      refine hfit.out.mono ?_
      rintro e w' ⟨rfl, q, rfl⟩
      go_wp2
      go_ret
      obtain ⟨_, _, _, _, _, _, hln, okp, hg⟩ := hX.out
      refine ⟨by rw [hend.out.2]; first | done | simp, ⟨⟨some ⟨g, 0, none⟩, cc, ?_, okp, ?_, ?_⟩⟩, (hM.out.hK.drewN q).mono (fun b e => e ▸ hg.1)⟩
      · rw [hln]; exact hM.out.hp
      · have := hM.out.hR
        rw [← hmx.out, hend.out.1] at this
        rw [hln, ← hmx.out]
        exact Kd.R_drewN this q
      · rw [hln, ← hmx.out]; omega
theorem rUnion_any (v u : Option Addr) (ok ok2 : Nat → Prop) (o1 o2 : Option (List Bool)) (w : World) (h1 : RP w ok v o1) (h2 : RP w ok2 u o2) (hal : (∀ k, ok2 k → ¬ ok k) ∨ u = v ∧ o2 = o1) :
    Calls Tryd.prog 22 #[.pointer v, .pointer u] w fun e w' => e = .returned (.bool (opC .or o1 o2)) ∧ RP w' ok v (opO .or o1 o2) ∧ Kp ok w w' := by
  cases hf : fitO o1 o2 with
  | false =>
    rw [(opO_no (op := .or) hf).1, (opO_no (op := .or) hf).2]
    refine (rUnion_no v u ok ok2 o1 o2 w h1 h2 hf).mono ?_
    rintro e w' ⟨rfl, q, rfl⟩
    exact ⟨rfl, h1.drewN q, (Kp.refl _ _).drewN q⟩
  | true =>
    obtain ⟨p, po, bs, cs, rfl, rfl, rfl, rfl, hB, hC, hn⟩ := rtwo h1 h2 hf
    have e1 : opC .or (some bs) (some cs) = decide (zipB .or bs cs ≠ bs) := by simp only [opC, if_pos hn]
    have e2 : opO .or (some bs) (some cs) = some (zipB .or bs cs) := by simp only [opO, if_pos hn]
    rw [e1, e2]
    rcases Nat.eq_zero_or_pos bs.length with h0 | h0
    · have e3 : bs = [] := List.eq_nil_of_length_eq_zero h0
      have e4 : cs = [] := List.eq_nil_of_length_eq_zero (by omega)
      subst e3; subst e4
      refine (rUnion_zero p _ ok ok2 _ w h1 h2 hf).mono ?_
      rintro e w' ⟨rfl, q, rfl⟩
      exact ⟨rfl, h1.drewN q, (Kp.refl _ _).drewN q⟩
    · refine (rUnion_yes p po ok ok2 bs cs w hB hC hn h0 ?_).mono ?_
      · rcases hal with h | ⟨h, h'⟩
        · exact .inl h
        · refine .inr ⟨?_, Option.some.inj h'⟩
          simpa using h
      · rintro e w' ⟨rfl, hB', hK⟩
        exact ⟨rfl, RP.set_ hB', hK⟩

theorem rSubtract_no (v u : Option Addr) (ok ok2 : Nat → Prop) (o1 o2 : Option (List Bool)) (w : World) (h1 : RP w ok v o1) (h2 : RP w ok2 u o2) (hf : fitO o1 o2 = false) :
    Calls Tryd.prog 24 #[.pointer v, .pointer u] w fun e w' => e = .returned (.bool false) ∧ ∃ q, w' = w.drewN q := by
  have h1' := Aside0.mk h1
  have h2' := Aside0.mk h2
  have hf' := Aside0.mk hf
  clear h1 h2 hf
  go_enter Tryd.func24, Tryd.ntmps24
  go_wp2
  go_loop [5, 6] (fun c i => c = .bool false ∧ i = .int .i64 0) (fun _ _ => 0)
  case atStart => exact ⟨rfl, rfl⟩
  case round =>
    obtain ⟨rfl, rfl⟩ := hrel
    go_wp2_with fail
    refine (rfits_any v u ok ok2 o1 o2 w h1'.out h2'.out).mono ?_
    rw [hf'.out]
    rintro e w' ⟨rfl, q, rfl⟩
    go_wp2
    go_ret
    exact ⟨rfl, q, rfl⟩
theorem rSubtract_zero (p : Nat) (u : Option Addr) (ok ok2 : Nat → Prop) (o2 : Option (List Bool)) (w : World) (h1 : RP w ok (some ⟨p, 0, none⟩) (some [])) (h2 : RP w ok2 u o2) (hf : fitO (some []) o2 = true) :
    Calls Tryd.prog 24 #[.pointer (some ⟨p, 0, none⟩), .pointer u] w fun e w' => e = .returned (.bool false) ∧ ∃ q, w' = w.drewN q := by
  have hc : ∃ A cc, w.cell? ⟨p, 1, none⟩ = some (.slice A 0 cc) := by
    rcases h1.ex with ⟨h, _⟩ | ⟨p', bs, h, hb, hB⟩
    · cases h
    · obtain rfl : p = p' := by simpa using h
      obtain rfl : [] = bs := Option.some.inj hb
      obtain ⟨A, cc, hp, _⟩ := hB.ex
      exact ⟨A, cc, cell_at hp rfl⟩
  obtain ⟨A, cc, hc⟩ := hc
  have h1' := Aside0.mk h1
  have h2' := Aside0.mk h2
  have hf' := Aside0.mk hf
  clear h1 h2 hf
  go_enter Tryd.func24, Tryd.ntmps24
  go_wp2
  go_loop [5, 6] (fun c i => c = .bool false ∧ i = .int .i64 0) (fun _ _ => 0)
  case atStart => exact ⟨rfl, rfl⟩
  case round =>
    obtain ⟨rfl, rfl⟩ := hrel
    go_wp2_with fail
    refine (rfits_any _ u ok ok2 _ o2 w h1'.out h2'.out).mono ?_
    rw [hf'.out]
    rintro e w' ⟨rfl, q, rfl⟩
    go_wp2
    go_ret
    exact ⟨rfl, q, rfl⟩
set_option maxHeartbeats 1000000 in
theorem rSubtract_yes (p po : Nat) (ok ok2 : Nat → Prop) (bs cs : List Bool) (w : World) (hS : RS w ok p bs) (hO : RS w ok2 po cs) (hlc : bs.length = cs.length) (hpos : 0 < bs.length) (hal : (∀ k, ok2 k → ¬ ok k) ∨ po = p ∧ cs = bs) :
    Calls Tryd.prog 24 #[.pointer (some ⟨p, 0, none⟩), .pointer (some ⟨po, 0, none⟩)] w fun e w' =>
      e = .returned (.bool (decide (zipB .andNot bs cs ≠ bs))) ∧ RS w' ok p (zipB .andNot bs cs) ∧ Kp ok w w' := by
  obtain ⟨A1, cc, hp, okp, hR, hl⟩ := hS.ex
  obtain ⟨A2, c2, hq, okq, hRo, hl2⟩ := hO.ex
  obtain ⟨g, rfl, hgo1, _, _⟩ := bool_at rfl hR 0 hpos
  obtain ⟨go_, rfl, hgq, _, _⟩ := bool_at rfl hRo 0 (by omega)
  have hg : ok g ∧ g ≠ p := hgo1
  have hpo : po ≠ g := by
    rcases hal with h | ⟨rfl, rfl⟩
    · exact fun e => h po okq (e ▸ hg.1)
    · exact fun e => hg.2 e.symm
  have hgo : go_ ≠ g ∨ cs = bs ∧ go_ = g := by
    rcases hal with h | ⟨rfl, rfl⟩
    · exact .inl (fun e => h go_ hgq.1 (e ▸ hg.1))
    · rw [hp] at hq
      simp at hq
      exact .inr ⟨rfl, hq.1.symm⟩
  obtain ⟨ns, hns⟩ : ∃ ns, ns = zipB .andNot bs cs := ⟨_, rfl⟩
  rw [← hns]
  have hln : ns.length = bs.length := by rw [hns, zipB_length _ _ _ hlc]
  have hnz : ∀ k, ns.getD k false = bop .andNot (bs.getD k false) (cs.getD k false) := fun k => by rw [hns, zipB_getD _ _ _ hlc]
  have M0 : MidB w w ok p g cc ns bs 0 := ⟨hp, by show Kd.R _ _ _ _ _ _ ([] ++ bs.drop 0); rw [List.drop_zero, List.nil_append]; exact hR, Kp.refl _ _⟩
  have hend : Aside0 (curB ns bs bs.length = ns ∧ chgB ns bs bs.length = decide (ns ≠ bs)) := by
    refine ⟨?_, ?_⟩
    · unfold curB; rw [List.take_of_length_le (by omega), List.drop_of_length_le (by omega), List.append_nil]
    · unfold chgB; rw [List.take_of_length_le (by omega), List.take_of_length_le (by omega)]
  have hX := Aside0.mk (And.intro hq (And.intro hRo (And.intro hpo (And.intro hgo (And.intro hlc (And.intro hnz (And.intro hln (And.intro okp hg))))))))
  have M0' := Aside0.mk M0
  have hm1 : (bs.length : Int) ≤ 65536 := by omega
  obtain ⟨m, hm⟩ : ∃ m, m = bs.length := ⟨_, rfl⟩
  have hmx := Aside0.mk hm
  rw [← hm] at hm1 hend
  clear hp hR hS hO hq hRo hg hgq hpo hgo hal hns hln hnz M0 hlc hm okp okq hgo1 hpos hl hl2
  go_enter Tryd.func24, Tryd.ntmps24
  go_wp2
  go_loopw [5, 6] (fun c i wr => ∃ k : Nat, k ≤ m ∧ i = .int .i64 k ∧ c = .bool (chgB ns bs k) ∧ Aside0 (MidB w wr ok p g cc ns bs k)) (fun _ i _ => m - (intOf i).toNat)
  case atStart => exact ⟨0, Nat.zero_le _, rfl, by simp [chgB], M0'⟩
  case round =>
    obtain ⟨k, hk, rfl, rfl, hM⟩ := hrel
    have q0 : wr.cell? ⟨p, 0, none⟩ = some (.bool true) := cell_at hM.out.hp rfl
    have q1 : wr.cell? ⟨p, 1, none⟩ = some (.slice (some ⟨g, 0, none⟩) m cc) := by rw [hmx.out]; exact cell_at hM.out.hp rfl
    have hbl : wr.heap[po]? = w.heap[po]? := hM.out.hK.block (blk_lt' hX.out.1) hX.out.2.2.1
    have q2 : wr.cell? ⟨po, 0, none⟩ = some (.bool true) := cell_at (hbl.trans hX.out.1) rfl
    have q3 : wr.cell? ⟨po, 1, none⟩ = some (.slice (some ⟨go_, 0, none⟩) m c2) := by rw [hmx.out, hX.out.2.2.2.2.1]; exact cell_at (hbl.trans hX.out.1) rfl
    have hfit := Aside0.mk (rfits_two p po _ _ m m cc c2 true wr q0 q2 q1 q3 (by simp))
    clear hbl q0 q2
    by_cases hlt : k < m
    · have hkm : k < bs.length := by rw [← hmx.out]; exact hlt
      have hln := hX.out.2.2.2.2.2.2.1
      have r2 := (hM.out.at_ hln hkm).1
      have r3 := (hM.out.at_ hln hkm).2
      have r5 := (hM.out.other hln hX.out.2.2.2.2.1 hX.out.1 hX.out.2.1 hX.out.2.2.1 hX.out.2.2.2.1 hkm).2
      have hz := hX.out.2.2.2.2.2.1 k
      have hC1 := chgB_succ hln k hkm
      have hNx := Aside0.mk (fun q => hM.out.next hln hkm q)
      have hSt := Aside0.mk (fun q => hM.out.stay hln hkm q)
      rw [hz] at hC1
      rw [hz] at hNx hSt
      obtain ⟨sb, es⟩ : ∃ b, bs.getD k false = b := ⟨_, rfl⟩
      obtain ⟨ob, eo⟩ : ∃ b, cs.getD k false = b := ⟨_, rfl⟩
      rw [es] at r2 hC1 hNx hSt
      rw [eo] at r5 hC1 hNx hSt
      clear es eo hz hkm hln
      have hki : (k : Int) ≤ 65536 := by omega
      cases sb <;> cases ob
      all_goals
        simp only [bop, Bool.or_false, Bool.or_true, Bool.and_false, Bool.and_true, Bool.not_true, Bool.not_false, bne_self_eq_false, Bool.or_self, Bool.and_self, show (true != false) = true from rfl, show (false != true) = true from rfl] at hC1 hNx hSt
        have hC2 := Aside0.mk hC1
        clear hC1
        go_wp2_with fail
        refine hfit.out.mono ?_
        rintro e w' ⟨rfl, q, rfl⟩
        go_wp2
        go_roundw
        case rel => first
          | exact ⟨k + 1, by omega, by go_num, by rw [hC2.out], ⟨hSt.out q trivial⟩⟩
          | exact ⟨k + 1, by omega, by go_num, by rw [hC2.out], ⟨hSt.out q rfl⟩⟩
          | exact ⟨k + 1, by omega, by go_num, by rw [hC2.out], ⟨hNx.out q⟩⟩
        case measure => simp [intOf]; omega
    · have hke : k = m := by omega
      subst hke
      go_wp2_with fail
      refine hfit.out.mono ?_
      rintro e w' ⟨rfl, q, rfl⟩
      go_wp2
      go_ret
      obtain ⟨_, _, _, _, _, _, hln, okp, hg⟩ := hX.out
      refine ⟨by rw [hend.out.2]; first | done | simp, ⟨⟨some ⟨g, 0, none⟩, cc, ?_, okp, ?_, ?_⟩⟩, (hM.out.hK.drewN q).mono (fun b e => e ▸ hg.1)⟩
      · rw [hln]; exact hM.out.hp
      · have := hM.out.hR
        rw [← hmx.out, hend.out.1] at this
        rw [hln, ← hmx.out]
        exact Kd.R_drewN this q
      · rw [hln, ← hmx.out]; omega
theorem rSubtract_any (v u : Option Addr) (ok ok2 : Nat → Prop) (o1 o2 : Option (List Bool)) (w : World) (h1 : RP w ok v o1) (h2 : RP w ok2 u o2) (hal : (∀ k, ok2 k → ¬ ok k) ∨ u = v ∧ o2 = o1) :
    Calls Tryd.prog 24 #[.pointer v, .pointer u] w fun e w' => e = .returned (.bool (opC .andNot o1 o2)) ∧ RP w' ok v (opO .andNot o1 o2) ∧ Kp ok w w' := by
  cases hf : fitO o1 o2 with
  | false =>
    rw [(opO_no (op := .andNot) hf).1, (opO_no (op := .andNot) hf).2]
    refine (rSubtract_no v u ok ok2 o1 o2 w h1 h2 hf).mono ?_
    rintro e w' ⟨rfl, q, rfl⟩
    exact ⟨rfl, h1.drewN q, (Kp.refl _ _).drewN q⟩
  | true =>
    obtain ⟨p, po, bs, cs, rfl, rfl, rfl, rfl, hB, hC, hn⟩ := rtwo h1 h2 hf
    have e1 : opC .andNot (some bs) (some cs) = decide (zipB .andNot bs cs ≠ bs) := by simp only [opC, if_pos hn]
    have e2 : opO .andNot (some bs) (some cs) = some (zipB .andNot bs cs) := by simp only [opO, if_pos hn]
    rw [e1, e2]
    rcases Nat.eq_zero_or_pos bs.length with h0 | h0
    · have e3 : bs = [] := List.eq_nil_of_length_eq_zero h0
      have e4 : cs = [] := List.eq_nil_of_length_eq_zero (by omega)
      subst e3; subst e4
      refine (rSubtract_zero p _ ok ok2 _ w h1 h2 hf).mono ?_
      rintro e w' ⟨rfl, q, rfl⟩
      exact ⟨rfl, h1.drewN q, (Kp.refl _ _).drewN q⟩
    · refine (rSubtract_yes p po ok ok2 bs cs w hB hC hn h0 ?_).mono ?_
      · rcases hal with h | ⟨h, h'⟩
        · exact .inl h
        · refine .inr ⟨?_, Option.some.inj h'⟩
          simpa using h
      · rintro e w' ⟨rfl, hB', hK⟩
        exact ⟨rfl, RP.set_ hB', hK⟩

theorem rIntersect_no (v u : Option Addr) (ok ok2 : Nat → Prop) (o1 o2 : Option (List Bool)) (w : World) (h1 : RP w ok v o1) (h2 : RP w ok2 u o2) (hf : fitO o1 o2 = false) :
    Calls Tryd.prog 26 #[.pointer v, .pointer u] w fun e w' => e = .returned (.bool false) ∧ ∃ q, w' = w.drewN q := by
  have h1' := Aside0.mk h1
  have h2' := Aside0.mk h2
  have hf' := Aside0.mk hf
  clear h1 h2 hf
  go_enter Tryd.func26, Tryd.ntmps26
  go_wp2
  go_loop [5, 6] (fun c i => c = .bool false ∧ i = .int .i64 0) (fun _ _ => 0)
  case atStart => exact ⟨rfl, rfl⟩
  case round =>
    obtain ⟨rfl, rfl⟩ := hrel
    go_wp2_with fail
    refine (rfits_any v u ok ok2 o1 o2 w h1'.out h2'.out).mono ?_
    rw [hf'.out]
    rintro e w' ⟨rfl, q, rfl⟩
    go_wp2
    go_ret
    exact ⟨rfl, q, rfl⟩
theorem rIntersect_zero (p : Nat) (u : Option Addr) (ok ok2 : Nat → Prop) (o2 : Option (List Bool)) (w : World) (h1 : RP w ok (some ⟨p, 0, none⟩) (some [])) (h2 : RP w ok2 u o2) (hf : fitO (some []) o2 = true) :
    Calls Tryd.prog 26 #[.pointer (some ⟨p, 0, none⟩), .pointer u] w fun e w' => e = .returned (.bool false) ∧ ∃ q, w' = w.drewN q := by
  have hc : ∃ A cc, w.cell? ⟨p, 1, none⟩ = some (.slice A 0 cc) := by
    rcases h1.ex with ⟨h, _⟩ | ⟨p', bs, h, hb, hB⟩
    · cases h
    · obtain rfl : p = p' := by simpa using h
      obtain rfl : [] = bs := Option.some.inj hb
      obtain ⟨A, cc, hp, _⟩ := hB.ex
      exact ⟨A, cc, cell_at hp rfl⟩
  obtain ⟨A, cc, hc⟩ := hc
  have h1' := Aside0.mk h1
  have h2' := Aside0.mk h2
  have hf' := Aside0.mk hf
  clear h1 h2 hf
  go_enter Tryd.func26, Tryd.ntmps26
  go_wp2
  go_loop [5, 6] (fun c i => c = .bool false ∧ i = .int .i64 0) (fun _ _ => 0)
  case atStart => exact ⟨rfl, rfl⟩
  case round =>
    obtain ⟨rfl, rfl⟩ := hrel
    go_wp2_with fail
    refine (rfits_any _ u ok ok2 _ o2 w h1'.out h2'.out).mono ?_
    rw [hf'.out]
    rintro e w' ⟨rfl, q, rfl⟩
    go_wp2
    go_ret
    exact ⟨rfl, q, rfl⟩
set_option maxHeartbeats 1000000 in
theorem rIntersect_yes (p po : Nat) (ok ok2 : Nat → Prop) (bs cs : List Bool) (w : World) (hS : RS w ok p bs) (hO : RS w ok2 po cs) (hlc : bs.length = cs.length) (hpos : 0 < bs.length) (hal : (∀ k, ok2 k → ¬ ok k) ∨ po = p ∧ cs = bs) :
    Calls Tryd.prog 26 #[.pointer (some ⟨p, 0, none⟩), .pointer (some ⟨po, 0, none⟩)] w fun e w' =>
      e = .returned (.bool (decide (zipB .and bs cs ≠ bs))) ∧ RS w' ok p (zipB .and bs cs) ∧ Kp ok w w' := by
  obtain ⟨A1, cc, hp, okp, hR, hl⟩ := hS.ex
  obtain ⟨A2, c2, hq, okq, hRo, hl2⟩ := hO.ex
  obtain ⟨g, rfl, hgo1, _, _⟩ := bool_at rfl hR 0 hpos
  obtain ⟨go_, rfl, hgq, _, _⟩ := bool_at rfl hRo 0 (by omega)
  have hg : ok g ∧ g ≠ p := hgo1
  have hpo : po ≠ g := by
    rcases hal with h | ⟨rfl, rfl⟩
    · exact fun e => h po okq (e ▸ hg.1)
    · exact fun e => hg.2 e.symm
  have hgo : go_ ≠ g ∨ cs = bs ∧ go_ = g := by
    rcases hal with h | ⟨rfl, rfl⟩
    · exact .inl (fun e => h go_ hgq.1 (e ▸ hg.1))
    · rw [hp] at hq
      simp at hq
      exact .inr ⟨rfl, hq.1.symm⟩
  obtain ⟨ns, hns⟩ : ∃ ns, ns = zipB .and bs cs := ⟨_, rfl⟩
  rw [← hns]
  have hln : ns.length = bs.length := by rw [hns, zipB_length _ _ _ hlc]
  have hnz : ∀ k, ns.getD k false = bop .and (bs.getD k false) (cs.getD k false) := fun k => by rw [hns, zipB_getD _ _ _ hlc]
  have M0 : MidB w w ok p g cc ns bs 0 := ⟨hp, by show Kd.R _ _ _ _ _ _ ([] ++ bs.drop 0); rw [List.drop_zero, List.nil_append]; exact hR, Kp.refl _ _⟩
  have hend : Aside0 (curB ns bs bs.length = ns ∧ chgB ns bs bs.length = decide (ns ≠ bs)) := by
    refine ⟨?_, ?_⟩
    · unfold curB; rw [List.take_of_length_le (by omega), List.drop_of_length_le (by omega), List.append_nil]
    · unfold chgB; rw [List.take_of_length_le (by omega), List.take_of_length_le (by omega)]
  have hX := Aside0.mk (And.intro hq (And.intro hRo (And.intro hpo (And.intro hgo (And.intro hlc (And.intro hnz (And.intro hln (And.intro okp hg))))))))
  have M0' := Aside0.mk M0
  have hm1 : (bs.length : Int) ≤ 65536 := by omega
  obtain ⟨m, hm⟩ : ∃ m, m = bs.length := ⟨_, rfl⟩
  have hmx := Aside0.mk hm
  rw [← hm] at hm1 hend
  clear hp hR hS hO hq hRo hg hgq hpo hgo hal hns hln hnz M0 hlc hm okp okq hgo1 hpos hl hl2
  go_enter Tryd.func26, Tryd.ntmps26
  go_wp2
  go_loopw [5, 6] (fun c i wr => ∃ k : Nat, k ≤ m ∧ i = .int .i64 k ∧ c = .bool (chgB ns bs k) ∧ Aside0 (MidB w wr ok p g cc ns bs k)) (fun _ i _ => m - (intOf i).toNat)
  case atStart => exact ⟨0, Nat.zero_le _, rfl, by simp [chgB], M0'⟩
  case round =>
    obtain ⟨k, hk, rfl, rfl, hM⟩ := hrel
    have q0 : wr.cell? ⟨p, 0, none⟩ = some (.bool true) := cell_at hM.out.hp rfl
    have q1 : wr.cell? ⟨p, 1, none⟩ = some (.slice (some ⟨g, 0, none⟩) m cc) := by rw [hmx.out]; exact cell_at hM.out.hp rfl
    have hbl : wr.heap[po]? = w.heap[po]? := hM.out.hK.block (blk_lt' hX.out.1) hX.out.2.2.1
    have q2 : wr.cell? ⟨po, 0, none⟩ = some (.bool true) := cell_at (hbl.trans hX.out.1) rfl
    have q3 : wr.cell? ⟨po, 1, none⟩ = some (.slice (some ⟨go_, 0, none⟩) m c2) := by rw [hmx.out, hX.out.2.2.2.2.1]; exact cell_at (hbl.trans hX.out.1) rfl
    have hfit := Aside0.mk (rfits_two p po _ _ m m cc c2 true wr q0 q2 q1 q3 (by simp))
    clear hbl q0 q2
    by_cases hlt : k < m
    · have hkm : k < bs.length := by rw [← hmx.out]; exact hlt
      have hln := hX.out.2.2.2.2.2.2.1
      have r2 := (hM.out.at_ hln hkm).1
      have r3 := (hM.out.at_ hln hkm).2
      have r5 := (hM.out.other hln hX.out.2.2.2.2.1 hX.out.1 hX.out.2.1 hX.out.2.2.1 hX.out.2.2.2.1 hkm).2
      have hz := hX.out.2.2.2.2.2.1 k
      have hC1 := chgB_succ hln k hkm
      have hNx := Aside0.mk (fun q => hM.out.next hln hkm q)
      have hSt := Aside0.mk (fun q => hM.out.stay hln hkm q)
      rw [hz] at hC1
      rw [hz] at hNx hSt
      obtain ⟨sb, es⟩ : ∃ b, bs.getD k false = b := ⟨_, rfl⟩
      obtain ⟨ob, eo⟩ : ∃ b, cs.getD k false = b := ⟨_, rfl⟩
      rw [es] at r2 hC1 hNx hSt
      rw [eo] at r5 hC1 hNx hSt
      clear es eo hz hkm hln
      have hki : (k : Int) ≤ 65536 := by omega
      cases sb <;> cases ob
      all_goals
        simp only [bop, Bool.or_false, Bool.or_true, Bool.and_false, Bool.and_true, Bool.not_true, Bool.not_false, bne_self_eq_false, Bool.or_self, Bool.and_self, show (true != false) = true from rfl, show (false != true) = true from rfl] at hC1 hNx hSt
        have hC2 := Aside0.mk hC1
        clear hC1
        go_wp2_with fail
        refine hfit.out.mono ?_
        rintro e w' ⟨rfl, q, rfl⟩
        go_wp2
        go_roundw
        case rel => first
          | exact ⟨k + 1, by omega, by go_num, by rw [hC2.out], ⟨hSt.out q trivial⟩⟩
          | exact ⟨k + 1, by omega, by go_num, by rw [hC2.out], ⟨hSt.out q rfl⟩⟩
          | exact ⟨k + 1, by omega, by go_num, by rw [hC2.out], ⟨hNx.out q⟩⟩
        case measure => simp [intOf]; omega
    · have hke : k = m := by omega
      subst hke
      go_wp2_with fail
      refine hfit.out.mono ?_
      rintro e w' ⟨rfl, q, rfl⟩
      go_wp2
      go_ret
      obtain ⟨_, _, _, _, _, _, hln, okp, hg⟩ := hX.out
      refine ⟨by rw [hend.out.2]; first | done | simp, ⟨⟨some ⟨g, 0, none⟩, cc, ?_, okp, ?_, ?_⟩⟩, (hM.out.hK.drewN q).mono (fun b e => e ▸ hg.1)⟩
      · rw [hln]; exact hM.out.hp
      · have := hM.out.hR
        rw [← hmx.out, hend.out.1] at this
        rw [hln, ← hmx.out]
        exact Kd.R_drewN this q
      · rw [hln, ← hmx.out]; omega
theorem rIntersect_any (v u : Option Addr) (ok ok2 : Nat → Prop) (o1 o2 : Option (List Bool)) (w : World) (h1 : RP w ok v o1) (h2 : RP w ok2 u o2) (hal : (∀ k, ok2 k → ¬ ok k) ∨ u = v ∧ o2 = o1) :
    Calls Tryd.prog 26 #[.pointer v, .pointer u] w fun e w' => e = .returned (.bool (opC .and o1 o2)) ∧ RP w' ok v (opO .and o1 o2) ∧ Kp ok w w' := by
  cases hf : fitO o1 o2 with
  | false =>
    rw [(opO_no (op := .and) hf).1, (opO_no (op := .and) hf).2]
    refine (rIntersect_no v u ok ok2 o1 o2 w h1 h2 hf).mono ?_
    rintro e w' ⟨rfl, q, rfl⟩
    exact ⟨rfl, h1.drewN q, (Kp.refl _ _).drewN q⟩
  | true =>
    obtain ⟨p, po, bs, cs, rfl, rfl, rfl, rfl, hB, hC, hn⟩ := rtwo h1 h2 hf
    have e1 : opC .and (some bs) (some cs) = decide (zipB .and bs cs ≠ bs) := by simp only [opC, if_pos hn]
    have e2 : opO .and (some bs) (some cs) = some (zipB .and bs cs) := by simp only [opO, if_pos hn]
    rw [e1, e2]
    rcases Nat.eq_zero_or_pos bs.length with h0 | h0
    · have e3 : bs = [] := List.eq_nil_of_length_eq_zero h0
      have e4 : cs = [] := List.eq_nil_of_length_eq_zero (by omega)
      subst e3; subst e4
      refine (rIntersect_zero p _ ok ok2 _ w h1 h2 hf).mono ?_
      rintro e w' ⟨rfl, q, rfl⟩
      exact ⟨rfl, h1.drewN q, (Kp.refl _ _).drewN q⟩
    · refine (rIntersect_yes p po ok ok2 bs cs w hB hC hn h0 ?_).mono ?_
      · rcases hal with h | ⟨h, h'⟩
        · exact .inl h
        · refine .inr ⟨?_, Option.some.inj h'⟩
          simpa using h
      · rintro e w' ⟨rfl, hB', hK⟩
        exact ⟨rfl, RP.set_ hB', hK⟩
end Go.Proofs.YtibjpamnkhnagaaDoor
