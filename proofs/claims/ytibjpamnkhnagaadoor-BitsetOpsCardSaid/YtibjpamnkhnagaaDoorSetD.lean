/- Package bitset: combine with each of its three functions. -/
import Derived.Test.YtibjpamnkhnagaaDoorSetC
set_option linter.unusedVariables false
set_option linter.unusedSimpArgs false
namespace Go.Proofs.YtibjpamnkhnagaaDoor
open Go.RowKit Go.Proofs.YtibjpamnkhnagaaDoorW.PrintWords Mem Bit

theorem valid_ok' (p : Nat) (w : World) (c0 : w.cell? ⟨p, 0, none⟩ = some (.bool true)) :
    Calls Tryd.prog 34 #[.pointer (some ⟨p, 0, none⟩)] w fun e w' => e = .returned (.bool true) ∧ w' = w := (valid_ok p w c0).mono fun _ _ h => ⟨h.1, h.2.symm⟩
/-- The words when k of them are over. -/
def cur (ns bs : List Bool) (k : Nat) : List Int := (wds ns).take k ++ (wds bs).drop k
def chg (ns bs : List Bool) (k : Nat) : Bool := decide ((wds ns).take k ≠ (wds bs).take k)
theorem cur_length {ns bs : List Bool} (h : ns.length = bs.length) (k : Nat) : (cur ns bs k).length = (bs.length + 63) / 64 := by
  unfold cur
  rw [List.length_append, List.length_take, List.length_drop, wds_length, wds_length, h]
  omega
theorem cur_zero (ns bs : List Bool) : cur ns bs 0 = wds bs := by simp [cur]
theorem cur_all {ns bs : List Bool} (h : ns.length = bs.length) : cur ns bs ((bs.length + 63) / 64) = wds ns := by
  unfold cur
  rw [List.take_of_length_le (by rw [wds_length, h]; omega), List.drop_of_length_le (by rw [wds_length]; omega), List.append_nil]
theorem cur_get {ns bs : List Bool} (h : ns.length = bs.length) (k : Nat) (hk : k < (bs.length + 63) / 64) : (cur ns bs k).getD k 0 = (wd bs k : Nat) := by
  unfold cur
  rw [List.getD_eq_getElem?_getD, List.getElem?_append_right (by rw [List.length_take, wds_length, h]; omega), List.length_take, wds_length, h, List.getElem?_drop]
  have : k + (k - min k ((bs.length + 63) / 64)) = k := by omega
  rw [this, wds_get bs k hk]
  rfl
theorem cur_set {ns bs : List Bool} (h : ns.length = bs.length) (k : Nat) (hk : k < (bs.length + 63) / 64) : (cur ns bs k).set k (wd ns k : Nat) = cur ns bs (k + 1) := by
  have h1 : k < (wds ns).length := by rw [wds_length, h]; exact hk
  have h2 : k < (wds bs).length := by rw [wds_length]; exact hk
  unfold cur
  rw [List.take_succ_eq_append_getElem h1, List.drop_eq_getElem_cons h2, List.set_append]
  have h3 : ((wds ns).take k).length = k := by rw [List.length_take]; omega
  rw [if_neg (by omega), h3, Nat.sub_self, List.set_cons_zero, List.append_assoc]
  congr 1
  have := wds_get ns k (by rw [h]; exact hk)
  rw [List.getElem?_eq_getElem h1] at this
  rw [Option.some.inj this]
  rfl
theorem chg_zero (ns bs : List Bool) : chg ns bs 0 = false := by simp [chg]
theorem chg_succ {ns bs : List Bool} (h : ns.length = bs.length) (k : Nat) (hk : k < (bs.length + 63) / 64) : chg ns bs (k + 1) = (chg ns bs k || (((wd ns k : Nat) : Int) != ((wd bs k : Nat) : Int))) := by
  have h1 : k < (wds ns).length := by rw [wds_length, h]; exact hk
  have h2 : k < (wds bs).length := by rw [wds_length]; exact hk
  have e1 := wds_get ns k (by rw [h]; exact hk)
  have e2 := wds_get bs k hk
  rw [List.getElem?_eq_getElem h1] at e1
  rw [List.getElem?_eq_getElem h2] at e2
  unfold chg
  rw [List.take_succ_eq_append_getElem h1, List.take_succ_eq_append_getElem h2, Option.some.inj e1, Option.some.inj e2]
  have hl : ((wds ns).take k).length = ((wds bs).take k).length := by rw [List.length_take, List.length_take]; omega
  rw [Bool.eq_iff_iff]
  simp only [decide_eq_true_eq, Bool.or_eq_true, bne_iff_ne, ne_eq]
  constructor
  · intro h3
    by_cases h4 : (wds ns).take k = (wds bs).take k
    · refine .inr (fun h5 => h3 ?_)
      rw [h4, h5]
    · exact .inl h4
  · rintro (h3 | h3) h4
    · exact h3 (List.append_inj h4 hl).1
    · have := (List.append_inj h4 hl).2
      exact h3 (by simpa using this)
theorem chg_all {ns bs : List Bool} (h : ns.length = bs.length) : chg ns bs ((bs.length + 63) / 64) = decide (ns ≠ bs) := by
  unfold chg
  rw [List.take_of_length_le (by rw [wds_length, h]; omega), List.take_of_length_le (by rw [wds_length]; omega)]
  rw [Bool.eq_iff_iff]
  simp only [decide_eq_true_eq, ne_eq]
  exact not_congr ⟨fun h1 => wds_inj h h1, fun h1 => by rw [h1]⟩

/-- The memory in the midst of it. -/
structure Mid (w wr : World) (ok : Nat → Prop) (p g cc : Nat) (ns bs : List Bool) (k : Nat) : Prop where
  hp : wr.heap[p]? = some (.cells #[.bool true, .int .i64 bs.length, .slice (some ⟨g, 0, none⟩) ((bs.length + 63) / 64) cc] 48 (0, 0))
  hR : Kd.R (Kd.int .u64) 55 wr 0 (fun b => ok b ∧ b ≠ p) (.slice (some ⟨g, 0, none⟩) (cur ns bs k).length cc) (cur ns bs k)
  hK : Kp (fun b => b = g) w wr
theorem Mid.word {w wr : World} {ok : Nat → Prop} {p g cc : Nat} {ns bs : List Bool} {k : Nat} (h : Mid w wr ok p g cc ns bs k) (hl : ns.length = bs.length) (hk : k < (bs.length + 63) / 64) :
    wr.cell? ⟨g, k, none⟩ = some (.int .u64 (wd bs k : Nat)) ∧ wr.frozen? ⟨g, k, none⟩ = false := by
  have h1 := Kd.R_cell 0 h.hR (k : Int) (by omega) (by rw [cur_length hl]; omega)
  have e : rdOf (0 : Int) (cur ns bs k) (k : Int) = (wd bs k : Nat) := by
    unfold rdOf
    rw [Int.toNat_natCast, cur_get hl k hk]
  rw [e] at h1
  exact h1
theorem Mid.next {w wr : World} {ok : Nat → Prop} {p g cc : Nat} {ns bs : List Bool} {k : Nat} (h : Mid w wr ok p g cc ns bs k) (hl : ns.length = bs.length) (hk : k < (bs.length + 63) / 64) (q : Nat) :
    Mid w (((wr.drewN q).setCell ⟨g, k, none⟩ (.int .u64 (wd ns k : Nat)))) ok p g cc ns bs (k + 1) := by
  have hg : ok g ∧ g ≠ p := h.hR.1 g (by simp [Value.ownBlock])
  have h2 := (Kd.R_put (Kd.R_drewN h.hR q) ((k : Nat) : Int) ((wd ns k : Nat) : Int)).1
  rw [Int.toNat_natCast, cur_set hl k hk] at h2
  refine ⟨(Below.heap_setCell (wr.drewN q) ⟨g, k, none⟩ _ p (fun e => hg.2 e.symm)).trans h.hp, ?_, (h.hK.drewN q).setCell (.inl rfl) _⟩
  rw [cur_length hl] at h2 ⊢
  exact h2
/-- The other set's words: another memory, or the very same. -/
theorem Mid.other {w wr : World} {ok ok2 : Nat → Prop} {p g cc po go_ c2 : Nat} {ns bs cs : List Bool} {k : Nat} (h : Mid w wr ok p g cc ns bs k) (hl : ns.length = bs.length) (hlc : bs.length = cs.length)
    (hq : w.heap[po]? = some (.cells #[.bool true, .int .i64 cs.length, .slice (some ⟨go_, 0, none⟩) ((cs.length + 63) / 64) c2] 48 (0, 0)))
    (hRo : Kd.R (Kd.int .u64) 55 w 0 (fun b => ok2 b ∧ b ≠ po) (.slice (some ⟨go_, 0, none⟩) (wds cs).length c2) (wds cs))
    (hpo : po ≠ g) (hgo : go_ ≠ g ∨ cs = bs ∧ go_ = g) (hk : k < (bs.length + 63) / 64) :
    wr.cell? ⟨po, 2, none⟩ = some (.slice (some ⟨go_, 0, none⟩) ((bs.length + 63) / 64) c2) ∧ wr.cell? ⟨go_, k, none⟩ = some (.int .u64 (wd cs k : Nat)) := by
  have h1 : wr.heap[po]? = w.heap[po]? := h.hK.block (blk_lt' hq) hpo
  constructor
  · rw [hlc]; exact cell_at (h1.trans hq) rfl
  · rcases hgo with hgo | ⟨rfl, rfl⟩
    · have h3 := (word_at hRo k (by omega)).1
      have h4 : go_ < w.heap.size := World.block_lt_of_cell? w ⟨go_, k, none⟩ h3
      have h5 := h.hK.block h4 hgo
      simp only [World.cell?, h5] at h3 ⊢
      exact h3
    · exact (h.word hl hk).1

theorem clo_or (a b : Nat) (w : World) : Calls Tryd.prog 40 #[.int .u64 (a : Int), .int .u64 (b : Int)] w fun e w' => e = .returned (.int .u64 (bits .or .u64 (a : Int) (b : Int))) ∧ w = w' := by
  go_enter Tryd.func40, Tryd.ntmps40
  go_wp2
  go_ret
  exact ⟨rfl, rfl⟩
theorem clo_or' (a b : Nat) (w : World) : Calls Tryd.prog 40 #[.int .u64 (a : Int), .int .u64 (b : Int)] w fun e w' => e = .returned (.int .u64 (bits .or .u64 (a : Int) (b : Int))) ∧ w' = w := (clo_or a b w).mono fun _ _ h => ⟨h.1, h.2.symm⟩
set_option maxHeartbeats 1000000 in
theorem comb_or (p po : Nat) (ok ok2 : Nat → Prop) (bs cs : List Bool) (w : World) (hS : BS w ok p bs) (hO : BS w ok2 po cs) (hlc : bs.length = cs.length) (hal : (∀ k, ok2 k → ¬ ok k) ∨ po = p ∧ cs = bs) :
    Calls Tryd.prog 39 #[.pointer (some ⟨p, 0, none⟩), .pointer (some ⟨po, 0, none⟩), .func (.func 40) #[] #[]] w fun e w' =>
      e = .returned (.bool (decide (zipB .or bs cs ≠ bs))) ∧ BS w' ok p (zipB .or bs cs) ∧ Kp ok w w' := by
  obtain ⟨g, cc, hp, okp, hR, hl⟩ := hS.ex
  obtain ⟨go_, c2, hq, okq, hRo, hl2⟩ := hO.ex
  have hg : ok g ∧ g ≠ p := hR.1 g (by simp [Value.ownBlock])
  have hgq : ok2 go_ ∧ go_ ≠ po := hRo.1 go_ (by simp [Value.ownBlock])
  have hpo : po ≠ g := by
    rcases hal with h | ⟨rfl, rfl⟩
    · exact fun e => h po okq (e ▸ hg.1)
    · exact fun e => hg.2 e.symm
  have hgo : go_ ≠ g ∨ cs = bs ∧ go_ = g := by
    rcases hal with h | ⟨rfl, rfl⟩
    · exact .inl (fun e => h go_ hgq.1 (e ▸ hg.1))
    · rw [hp] at hq
      simp at hq
      exact .inr ⟨rfl, hq.1.symm⟩
  obtain ⟨ns, hns⟩ : ∃ ns, ns = zipB .or bs cs := ⟨_, rfl⟩
  rw [← hns]
  have hln : ns.length = bs.length := by rw [hns, zipB_length _ _ _ hlc]
  have hwz : ∀ k, bits .or .u64 ((wd bs k : Nat) : Int) ((wd cs k : Nat) : Int) = ((wd ns k : Nat) : Int) := fun k => by rw [Bit.bits_nat, hns, wd_zip _ _ _ hlc]
  have M0 : Mid w w ok p g cc ns bs 0 := ⟨by rw [← wds_length]; exact hp, by rw [cur_zero]; exact hR, Kp.refl _ _⟩
  have c0 : w.cell? ⟨p, 0, none⟩ = some (.bool true) := cell_at hp rfl
  have c1 : w.cell? ⟨p, 1, none⟩ = some (.int .i64 bs.length) := cell_at hp rfl
  have c2' : w.cell? ⟨p, 2, none⟩ = some (.slice (some ⟨g, 0, none⟩) ((bs.length + 63) / 64) cc) := by rw [← wds_length]; exact cell_at hp rfl
  have d0 : w.cell? ⟨po, 0, none⟩ = some (.bool true) := cell_at hq rfl
  have d1 : w.cell? ⟨po, 1, none⟩ = some (.int .i64 bs.length) := by rw [hlc]; exact cell_at hq rfl
  have hq' : w.heap[po]? = some (.cells #[.bool true, .int .i64 cs.length, .slice (some ⟨go_, 0, none⟩) ((cs.length + 63) / 64) c2] 48 (0, 0)) := by rw [← wds_length]; exact hq
  have hcl := cur_length (ns := ns) (bs := bs) hln
  have hend : Aside0 (cur ns bs ((bs.length + 63) / 64) = wds ns ∧ chg ns bs ((bs.length + 63) / 64) = decide (ns ≠ bs)) := ⟨cur_all hln, chg_all hln⟩
  have hX := Aside0.mk (And.intro hq' (And.intro hRo (And.intro hpo (And.intro hgo (And.intro hlc (And.intro hwz (And.intro hln (And.intro okp (And.intro hg hcl)))))))))
  have M0' := Aside0.mk M0
  have hchg : ∀ k, k < (bs.length + 63) / 64 → chg ns bs (k + 1) = (chg ns bs k || (((wd ns k : Nat) : Int) != ((wd bs k : Nat) : Int))) := fun k hk => chg_succ hln k hk
  have hC := Aside0.mk hchg
  have hm1 : (bs.length + 63) / 64 ≤ 1025 := by omega
  obtain ⟨m, hm⟩ : ∃ m, m = (bs.length + 63) / 64 := ⟨_, rfl⟩
  have hmx := Aside0.mk hm
  rw [← hm] at c2' hm1 hend
  clear hp hR hS hO hq hRo hg hgq hpo hgo hal hns hln hwz hq' M0 hchg hlc hm okp okq hcl
  go_enter Tryd.func39, Tryd.ntmps39
  go_wp2
  go_quiet ((go_at_call 34; exact Calls.quiet_of_same (valid_ok' _ _ (by assumption))))
  go_wp2
  go_loopw [7, 34] (fun c i wr => ∃ k : Nat, k ≤ m ∧ i = .int .i64 k ∧ c = .bool (chg ns bs k) ∧ Aside0 (Mid w wr ok p g cc ns bs k)) (fun _ i _ => m - (intOf i).toNat)
  case atStart => exact ⟨0, Nat.zero_le _, rfl, by rw [chg_zero], ⟨⟨M0'.out.hp, M0'.out.hR, M0'.out.hK.drewN _⟩⟩⟩
  case round =>
    obtain ⟨k, hk, rfl, rfl, hM⟩ := hrel
    have r1 : wr.cell? ⟨p, 2, none⟩ = some (.slice (some ⟨g, 0, none⟩) m cc) := by rw [hmx.out]; exact cell_at hM.out.hp rfl
    by_cases hlt : k < m
    · have hkm : k < (bs.length + 63) / 64 := by rw [← hmx.out]; exact hlt
      have hln := hX.out.2.2.2.2.2.2.1
      have r2 := (hM.out.word hln hkm).1
      have r3 := (hM.out.word hln hkm).2
      obtain ⟨r4, r5⟩ := hM.out.other hln hX.out.2.2.2.2.1 hX.out.1 hX.out.2.1 hX.out.2.2.1 hX.out.2.2.2.1 hkm
      rw [← hmx.out] at r4
      have hz := hX.out.2.2.2.2.2.1 k
      have hN := Aside0.mk (fun q => hM.out.next hln hkm q)
      have hC1 := Aside0.mk (hC.out k hkm)
      have hVb := wd_lt bs k
      have hUb := wd_lt cs k
      obtain ⟨V, hV⟩ : ∃ V, V = wd bs k := ⟨_, rfl⟩
      obtain ⟨U, hU⟩ : ∃ U, U = wd cs k := ⟨_, rfl⟩
      obtain ⟨Y, hY⟩ : ∃ Y, Y = ((wd ns k : Nat) : Int) := ⟨_, rfl⟩
      rw [← hY] at hz hN hC1
      rw [← hV] at r2 hz hC1 hVb
      rw [← hU] at r5 hz hUb
      obtain ⟨d, hd⟩ : ∃ d, (Y != (V : Int)) = d := ⟨_, rfl⟩
      rw [hd] at hC1
      clear hV hU hY hkm hln
      cases hb : chg ns bs k with
      | false =>
        have hb' := Aside0.mk hb
        rw [hb] at hC1
        simp only [Bool.false_or] at hC1
        clear hb
        go_wp2
        go_quiet ((go_at_call 40; exact Calls.quiet_of_same (clo_or' _ _ _)))
        go_wp2
        go_roundw
        case rel => exact ⟨k + 1, by omega, by go_num, by rw [hC1.out], ⟨hN.out _⟩⟩
        case measure => simp [intOf]; omega
      | true =>
        have hb' := Aside0.mk hb
        rw [hb] at hC1
        simp only [Bool.true_or] at hC1
        clear hb
        go_wp2
        go_quiet ((go_at_call 40; exact Calls.quiet_of_same (clo_or' _ _ _)))
        go_wp2
        go_roundw
        case rel => exact ⟨k + 1, by omega, by go_num, by rw [hC1.out], ⟨hN.out _⟩⟩
        case measure => simp [intOf]; omega
    · have hke : k = m := by omega
      subst hke
      go_wp2
      go_ret
      obtain ⟨_, _, _, _, _, _, hln, okp, hg, hcl⟩ := hX.out
      refine ⟨by rw [hend.out.2]; first | done | simp, ⟨⟨g, cc, ?_, okp, ?_, ?_⟩⟩, hM.out.hK.mono (fun b e => e ▸ hg.1)⟩
      · have := hM.out.hp
        rw [wds_length, hln]
        exact this
      · have := hM.out.hR
        rw [hend.out.1] at this
        exact this
      · omega

theorem clo_andNot (a b : Nat) (w : World) : Calls Tryd.prog 42 #[.int .u64 (a : Int), .int .u64 (b : Int)] w fun e w' => e = .returned (.int .u64 (bits .andNot .u64 (a : Int) (b : Int))) ∧ w = w' := by
  go_enter Tryd.func42, Tryd.ntmps42
  go_wp2
  go_ret
  exact ⟨rfl, rfl⟩
theorem clo_andNot' (a b : Nat) (w : World) : Calls Tryd.prog 42 #[.int .u64 (a : Int), .int .u64 (b : Int)] w fun e w' => e = .returned (.int .u64 (bits .andNot .u64 (a : Int) (b : Int))) ∧ w' = w := (clo_andNot a b w).mono fun _ _ h => ⟨h.1, h.2.symm⟩
set_option maxHeartbeats 1000000 in
theorem comb_andNot (p po : Nat) (ok ok2 : Nat → Prop) (bs cs : List Bool) (w : World) (hS : BS w ok p bs) (hO : BS w ok2 po cs) (hlc : bs.length = cs.length) (hal : (∀ k, ok2 k → ¬ ok k) ∨ po = p ∧ cs = bs) :
    Calls Tryd.prog 39 #[.pointer (some ⟨p, 0, none⟩), .pointer (some ⟨po, 0, none⟩), .func (.func 42) #[] #[]] w fun e w' =>
      e = .returned (.bool (decide (zipB .andNot bs cs ≠ bs))) ∧ BS w' ok p (zipB .andNot bs cs) ∧ Kp ok w w' := by
  obtain ⟨g, cc, hp, okp, hR, hl⟩ := hS.ex
  obtain ⟨go_, c2, hq, okq, hRo, hl2⟩ := hO.ex
  have hg : ok g ∧ g ≠ p := hR.1 g (by simp [Value.ownBlock])
  have hgq : ok2 go_ ∧ go_ ≠ po := hRo.1 go_ (by simp [Value.ownBlock])
  have hpo : po ≠ g := by
    rcases hal with h | ⟨rfl, rfl⟩
    · exact fun e => h po okq (e ▸ hg.1)
    · exact fun e => hg.2 e.symm
  have hgo : go_ ≠ g ∨ cs = bs ∧ go_ = g := by
    rcases hal with h | ⟨rfl, rfl⟩
    · exact .inl (fun e => h go_ hgq.1 (e ▸ hg.1))
    · rw [hp] at hq
      simp at hq
      exact .inr ⟨rfl, hq.1.symm⟩
  obtain ⟨ns, hns⟩ : ∃ ns, ns = zipB .andNot bs cs := ⟨_, rfl⟩
  rw [← hns]
  have hln : ns.length = bs.length := by rw [hns, zipB_length _ _ _ hlc]
  have hwz : ∀ k, bits .andNot .u64 ((wd bs k : Nat) : Int) ((wd cs k : Nat) : Int) = ((wd ns k : Nat) : Int) := fun k => by rw [Bit.bits_nat, hns, wd_zip _ _ _ hlc]
  have M0 : Mid w w ok p g cc ns bs 0 := ⟨by rw [← wds_length]; exact hp, by rw [cur_zero]; exact hR, Kp.refl _ _⟩
  have c0 : w.cell? ⟨p, 0, none⟩ = some (.bool true) := cell_at hp rfl
  have c1 : w.cell? ⟨p, 1, none⟩ = some (.int .i64 bs.length) := cell_at hp rfl
  have c2' : w.cell? ⟨p, 2, none⟩ = some (.slice (some ⟨g, 0, none⟩) ((bs.length + 63) / 64) cc) := by rw [← wds_length]; exact cell_at hp rfl
  have d0 : w.cell? ⟨po, 0, none⟩ = some (.bool true) := cell_at hq rfl
  have d1 : w.cell? ⟨po, 1, none⟩ = some (.int .i64 bs.length) := by rw [hlc]; exact cell_at hq rfl
  have hq' : w.heap[po]? = some (.cells #[.bool true, .int .i64 cs.length, .slice (some ⟨go_, 0, none⟩) ((cs.length + 63) / 64) c2] 48 (0, 0)) := by rw [← wds_length]; exact hq
  have hcl := cur_length (ns := ns) (bs := bs) hln
  have hend : Aside0 (cur ns bs ((bs.length + 63) / 64) = wds ns ∧ chg ns bs ((bs.length + 63) / 64) = decide (ns ≠ bs)) := ⟨cur_all hln, chg_all hln⟩
  have hX := Aside0.mk (And.intro hq' (And.intro hRo (And.intro hpo (And.intro hgo (And.intro hlc (And.intro hwz (And.intro hln (And.intro okp (And.intro hg hcl)))))))))
  have M0' := Aside0.mk M0
  have hchg : ∀ k, k < (bs.length + 63) / 64 → chg ns bs (k + 1) = (chg ns bs k || (((wd ns k : Nat) : Int) != ((wd bs k : Nat) : Int))) := fun k hk => chg_succ hln k hk
  have hC := Aside0.mk hchg
  have hm1 : (bs.length + 63) / 64 ≤ 1025 := by omega
  obtain ⟨m, hm⟩ : ∃ m, m = (bs.length + 63) / 64 := ⟨_, rfl⟩
  have hmx := Aside0.mk hm
  rw [← hm] at c2' hm1 hend
  clear hp hR hS hO hq hRo hg hgq hpo hgo hal hns hln hwz hq' M0 hchg hlc hm okp okq hcl
  go_enter Tryd.func39, Tryd.ntmps39
  go_wp2
  go_quiet ((go_at_call 34; exact Calls.quiet_of_same (valid_ok' _ _ (by assumption))))
  go_wp2
  go_loopw [7, 34] (fun c i wr => ∃ k : Nat, k ≤ m ∧ i = .int .i64 k ∧ c = .bool (chg ns bs k) ∧ Aside0 (Mid w wr ok p g cc ns bs k)) (fun _ i _ => m - (intOf i).toNat)
  case atStart => exact ⟨0, Nat.zero_le _, rfl, by rw [chg_zero], ⟨⟨M0'.out.hp, M0'.out.hR, M0'.out.hK.drewN _⟩⟩⟩
  case round =>
    obtain ⟨k, hk, rfl, rfl, hM⟩ := hrel
    have r1 : wr.cell? ⟨p, 2, none⟩ = some (.slice (some ⟨g, 0, none⟩) m cc) := by rw [hmx.out]; exact cell_at hM.out.hp rfl
    by_cases hlt : k < m
    · have hkm : k < (bs.length + 63) / 64 := by rw [← hmx.out]; exact hlt
      have hln := hX.out.2.2.2.2.2.2.1
      have r2 := (hM.out.word hln hkm).1
      have r3 := (hM.out.word hln hkm).2
      obtain ⟨r4, r5⟩ := hM.out.other hln hX.out.2.2.2.2.1 hX.out.1 hX.out.2.1 hX.out.2.2.1 hX.out.2.2.2.1 hkm
      rw [← hmx.out] at r4
      have hz := hX.out.2.2.2.2.2.1 k
      have hN := Aside0.mk (fun q => hM.out.next hln hkm q)
      have hC1 := Aside0.mk (hC.out k hkm)
      have hVb := wd_lt bs k
      have hUb := wd_lt cs k
      obtain ⟨V, hV⟩ : ∃ V, V = wd bs k := ⟨_, rfl⟩
      obtain ⟨U, hU⟩ : ∃ U, U = wd cs k := ⟨_, rfl⟩
      obtain ⟨Y, hY⟩ : ∃ Y, Y = ((wd ns k : Nat) : Int) := ⟨_, rfl⟩
      rw [← hY] at hz hN hC1
      rw [← hV] at r2 hz hC1 hVb
      rw [← hU] at r5 hz hUb
      obtain ⟨d, hd⟩ : ∃ d, (Y != (V : Int)) = d := ⟨_, rfl⟩
      rw [hd] at hC1
      clear hV hU hY hkm hln
      cases hb : chg ns bs k with
      | false =>
        have hb' := Aside0.mk hb
        rw [hb] at hC1
        simp only [Bool.false_or] at hC1
        clear hb
        go_wp2
        go_quiet ((go_at_call 42; exact Calls.quiet_of_same (clo_andNot' _ _ _)))
        go_wp2
        go_roundw
        case rel => exact ⟨k + 1, by omega, by go_num, by rw [hC1.out], ⟨hN.out _⟩⟩
        case measure => simp [intOf]; omega
      | true =>
        have hb' := Aside0.mk hb
        rw [hb] at hC1
        simp only [Bool.true_or] at hC1
        clear hb
        go_wp2
        go_quiet ((go_at_call 42; exact Calls.quiet_of_same (clo_andNot' _ _ _)))
        go_wp2
        go_roundw
        case rel => exact ⟨k + 1, by omega, by go_num, by rw [hC1.out], ⟨hN.out _⟩⟩
        case measure => simp [intOf]; omega
    · have hke : k = m := by omega
      subst hke
      go_wp2
      go_ret
      obtain ⟨_, _, _, _, _, _, hln, okp, hg, hcl⟩ := hX.out
      refine ⟨by rw [hend.out.2]; first | done | simp, ⟨⟨g, cc, ?_, okp, ?_, ?_⟩⟩, hM.out.hK.mono (fun b e => e ▸ hg.1)⟩
      · have := hM.out.hp
        rw [wds_length, hln]
        exact this
      · have := hM.out.hR
        rw [hend.out.1] at this
        exact this
      · omega

theorem clo_and (a b : Nat) (w : World) : Calls Tryd.prog 43 #[.int .u64 (a : Int), .int .u64 (b : Int)] w fun e w' => e = .returned (.int .u64 (bits .and .u64 (a : Int) (b : Int))) ∧ w = w' := by
  go_enter Tryd.func43, Tryd.ntmps43
  go_wp2
  go_ret
  exact ⟨rfl, rfl⟩
theorem clo_and' (a b : Nat) (w : World) : Calls Tryd.prog 43 #[.int .u64 (a : Int), .int .u64 (b : Int)] w fun e w' => e = .returned (.int .u64 (bits .and .u64 (a : Int) (b : Int))) ∧ w' = w := (clo_and a b w).mono fun _ _ h => ⟨h.1, h.2.symm⟩
set_option maxHeartbeats 1000000 in
theorem comb_and (p po : Nat) (ok ok2 : Nat → Prop) (bs cs : List Bool) (w : World) (hS : BS w ok p bs) (hO : BS w ok2 po cs) (hlc : bs.length = cs.length) (hal : (∀ k, ok2 k → ¬ ok k) ∨ po = p ∧ cs = bs) :
    Calls Tryd.prog 39 #[.pointer (some ⟨p, 0, none⟩), .pointer (some ⟨po, 0, none⟩), .func (.func 43) #[] #[]] w fun e w' =>
      e = .returned (.bool (decide (zipB .and bs cs ≠ bs))) ∧ BS w' ok p (zipB .and bs cs) ∧ Kp ok w w' := by
  obtain ⟨g, cc, hp, okp, hR, hl⟩ := hS.ex
  obtain ⟨go_, c2, hq, okq, hRo, hl2⟩ := hO.ex
  have hg : ok g ∧ g ≠ p := hR.1 g (by simp [Value.ownBlock])
  have hgq : ok2 go_ ∧ go_ ≠ po := hRo.1 go_ (by simp [Value.ownBlock])
  have hpo : po ≠ g := by
    rcases hal with h | ⟨rfl, rfl⟩
    · exact fun e => h po okq (e ▸ hg.1)
    · exact fun e => hg.2 e.symm
  have hgo : go_ ≠ g ∨ cs = bs ∧ go_ = g := by
    rcases hal with h | ⟨rfl, rfl⟩
    · exact .inl (fun e => h go_ hgq.1 (e ▸ hg.1))
    · rw [hp] at hq
      simp at hq
      exact .inr ⟨rfl, hq.1.symm⟩
  obtain ⟨ns, hns⟩ : ∃ ns, ns = zipB .and bs cs := ⟨_, rfl⟩
  rw [← hns]
  have hln : ns.length = bs.length := by rw [hns, zipB_length _ _ _ hlc]
  have hwz : ∀ k, bits .and .u64 ((wd bs k : Nat) : Int) ((wd cs k : Nat) : Int) = ((wd ns k : Nat) : Int) := fun k => by rw [Bit.bits_nat, hns, wd_zip _ _ _ hlc]
  have M0 : Mid w w ok p g cc ns bs 0 := ⟨by rw [← wds_length]; exact hp, by rw [cur_zero]; exact hR, Kp.refl _ _⟩
  have c0 : w.cell? ⟨p, 0, none⟩ = some (.bool true) := cell_at hp rfl
  have c1 : w.cell? ⟨p, 1, none⟩ = some (.int .i64 bs.length) := cell_at hp rfl
  have c2' : w.cell? ⟨p, 2, none⟩ = some (.slice (some ⟨g, 0, none⟩) ((bs.length + 63) / 64) cc) := by rw [← wds_length]; exact cell_at hp rfl
  have d0 : w.cell? ⟨po, 0, none⟩ = some (.bool true) := cell_at hq rfl
  have d1 : w.cell? ⟨po, 1, none⟩ = some (.int .i64 bs.length) := by rw [hlc]; exact cell_at hq rfl
  have hq' : w.heap[po]? = some (.cells #[.bool true, .int .i64 cs.length, .slice (some ⟨go_, 0, none⟩) ((cs.length + 63) / 64) c2] 48 (0, 0)) := by rw [← wds_length]; exact hq
  have hcl := cur_length (ns := ns) (bs := bs) hln
  have hend : Aside0 (cur ns bs ((bs.length + 63) / 64) = wds ns ∧ chg ns bs ((bs.length + 63) / 64) = decide (ns ≠ bs)) := ⟨cur_all hln, chg_all hln⟩
  have hX := Aside0.mk (And.intro hq' (And.intro hRo (And.intro hpo (And.intro hgo (And.intro hlc (And.intro hwz (And.intro hln (And.intro okp (And.intro hg hcl)))))))))
  have M0' := Aside0.mk M0
  have hchg : ∀ k, k < (bs.length + 63) / 64 → chg ns bs (k + 1) = (chg ns bs k || (((wd ns k : Nat) : Int) != ((wd bs k : Nat) : Int))) := fun k hk => chg_succ hln k hk
  have hC := Aside0.mk hchg
  have hm1 : (bs.length + 63) / 64 ≤ 1025 := by omega
  obtain ⟨m, hm⟩ : ∃ m, m = (bs.length + 63) / 64 := ⟨_, rfl⟩
  have hmx := Aside0.mk hm
  rw [← hm] at c2' hm1 hend
  clear hp hR hS hO hq hRo hg hgq hpo hgo hal hns hln hwz hq' M0 hchg hlc hm okp okq hcl
  go_enter Tryd.func39, Tryd.ntmps39
  go_wp2
  go_quiet ((go_at_call 34; exact Calls.quiet_of_same (valid_ok' _ _ (by assumption))))
  go_wp2
  go_loopw [7, 34] (fun c i wr => ∃ k : Nat, k ≤ m ∧ i = .int .i64 k ∧ c = .bool (chg ns bs k) ∧ Aside0 (Mid w wr ok p g cc ns bs k)) (fun _ i _ => m - (intOf i).toNat)
  case atStart => exact ⟨0, Nat.zero_le _, rfl, by rw [chg_zero], ⟨⟨M0'.out.hp, M0'.out.hR, M0'.out.hK.drewN _⟩⟩⟩
  case round =>
    obtain ⟨k, hk, rfl, rfl, hM⟩ := hrel
    have r1 : wr.cell? ⟨p, 2, none⟩ = some (.slice (some ⟨g, 0, none⟩) m cc) := by rw [hmx.out]; exact cell_at hM.out.hp rfl
    by_cases hlt : k < m
    · have hkm : k < (bs.length + 63) / 64 := by rw [← hmx.out]; exact hlt
      have hln := hX.out.2.2.2.2.2.2.1
      have r2 := (hM.out.word hln hkm).1
      have r3 := (hM.out.word hln hkm).2
      obtain ⟨r4, r5⟩ := hM.out.other hln hX.out.2.2.2.2.1 hX.out.1 hX.out.2.1 hX.out.2.2.1 hX.out.2.2.2.1 hkm
      rw [← hmx.out] at r4
      have hz := hX.out.2.2.2.2.2.1 k
      have hN := Aside0.mk (fun q => hM.out.next hln hkm q)
      have hC1 := Aside0.mk (hC.out k hkm)
      have hVb := wd_lt bs k
      have hUb := wd_lt cs k
      obtain ⟨V, hV⟩ : ∃ V, V = wd bs k := ⟨_, rfl⟩
      obtain ⟨U, hU⟩ : ∃ U, U = wd cs k := ⟨_, rfl⟩
      obtain ⟨Y, hY⟩ : ∃ Y, Y = ((wd ns k : Nat) : Int) := ⟨_, rfl⟩
      rw [← hY] at hz hN hC1
      rw [← hV] at r2 hz hC1 hVb
      rw [← hU] at r5 hz hUb
      obtain ⟨d, hd⟩ : ∃ d, (Y != (V : Int)) = d := ⟨_, rfl⟩
      rw [hd] at hC1
      clear hV hU hY hkm hln
      cases hb : chg ns bs k with
      | false =>
        have hb' := Aside0.mk hb
        rw [hb] at hC1
        simp only [Bool.false_or] at hC1
        clear hb
        go_wp2
        go_quiet ((go_at_call 43; exact Calls.quiet_of_same (clo_and' _ _ _)))
        go_wp2
        go_roundw
        case rel => exact ⟨k + 1, by omega, by go_num, by rw [hC1.out], ⟨hN.out _⟩⟩
        case measure => simp [intOf]; omega
      | true =>
        have hb' := Aside0.mk hb
        rw [hb] at hC1
        simp only [Bool.true_or] at hC1
        clear hb
        go_wp2
        go_quiet ((go_at_call 43; exact Calls.quiet_of_same (clo_and' _ _ _)))
        go_wp2
        go_roundw
        case rel => exact ⟨k + 1, by omega, by go_num, by rw [hC1.out], ⟨hN.out _⟩⟩
        case measure => simp [intOf]; omega
    · have hke : k = m := by omega
      subst hke
      go_wp2
      go_ret
      obtain ⟨_, _, _, _, _, _, hln, okp, hg, hcl⟩ := hX.out
      refine ⟨by rw [hend.out.2]; first | done | simp, ⟨⟨g, cc, ?_, okp, ?_, ?_⟩⟩, hM.out.hK.mono (fun b e => e ▸ hg.1)⟩
      · have := hM.out.hp
        rw [wds_length, hln]
        exact this
      · have := hM.out.hR
        rw [hend.out.1] at this
        exact this
      · omega
end Go.Proofs.YtibjpamnkhnagaaDoor
