/- The reference's sets: what their memory says, and the contracts of New, ok, Has, Add, Remove, Of, Cap, Clone. -/
import Derived.Test.YtibjpamnkhnagaaDoorSetM
set_option linter.unusedVariables false
set_option linter.unusedSimpArgs false
namespace Go.Proofs.YtibjpamnkhnagaaDoor
open Go.RowKit Go.Proofs.YtibjpamnkhnagaaDoorW.PrintWords Mem Bit

theorem infoB : (Tryd.prog.info? 4).map (fun i => (i.zero, i.size, i.bytes)) = some (some (.bool false), 1, 1) := by kernel_rfl

structure RS (w : World) (ok : Nat → Prop) (p : Nat) (bs : List Bool) : Prop where
  ex : ∃ A cc, w.heap[p]? = some (.cells #[.bool true, .slice A bs.length cc] 59 (0, 0)) ∧ ok p ∧
    Kd.R Kd.bool 4 w 0 (fun k => ok k ∧ k ≠ p) (.slice A bs.length cc) bs ∧ bs.length ≤ 65536
theorem RS.step {w w1 : World} {ok : Nat → Prop} {p : Nat} {bs : List Bool} (h : RS w ok p bs) (hm : ∀ k, ok k → k < w.heap.size → w1.heap[k]? = w.heap[k]?) : RS w1 ok p bs := by
  obtain ⟨A, cc, hp, okp, hR, hl⟩ := h.ex
  exact ⟨⟨A, cc, (hm p okp (blk_lt' hp)).trans hp, okp, Kd.R_step hR (fun k hk hlt => hm k hk.1 hlt), hl⟩⟩
theorem RS.mono {w : World} {ok ok' : Nat → Prop} {p : Nat} {bs : List Bool} (h : RS w ok p bs) (hm : ∀ k, ok k → ok' k) : RS w ok' p bs := by
  obtain ⟨A, cc, hp, okp, hR, hl⟩ := h.ex
  exact ⟨⟨A, cc, hp, hm _ okp, Kd.R_mono hR (fun k hk => ⟨hm k hk.1, hk.2⟩), hl⟩⟩
theorem RS.bound {w : World} {ok : Nat → Prop} {p : Nat} {bs : List Bool} (h : RS w ok p bs) : RS w (fun k => ok k ∧ k < w.heap.size) p bs := by
  obtain ⟨A, cc, hp, okp, hR, hl⟩ := h.ex
  exact ⟨⟨A, cc, hp, ⟨okp, blk_lt' hp⟩, Kd.R_mono (Kd.R_bound hR) (fun k hk => ⟨⟨hk.1.1, hk.2.2.1⟩, hk.1.2⟩), hl⟩⟩
structure RP (w : World) (ok : Nat → Prop) (v : Option Addr) (o : Option (List Bool)) : Prop where
  ex : (v = none ∧ o = none) ∨ ∃ p bs, v = some ⟨p, 0, none⟩ ∧ o = some bs ∧ RS w ok p bs
theorem RP.step {w w1 : World} {ok : Nat → Prop} {v : Option Addr} {o : Option (List Bool)} (h : RP w ok v o) (hm : ∀ k, ok k → k < w.heap.size → w1.heap[k]? = w.heap[k]?) : RP w1 ok v o := by
  rcases h.ex with h | ⟨p, bs, h1, h2, h3⟩
  · exact ⟨.inl h⟩
  · exact ⟨.inr ⟨p, bs, h1, h2, h3.step hm⟩⟩
theorem RP.mono {w : World} {ok ok' : Nat → Prop} {v : Option Addr} {o : Option (List Bool)} (h : RP w ok v o) (hm : ∀ k, ok k → ok' k) : RP w ok' v o := by
  rcases h.ex with h | ⟨p, bs, h1, h2, h3⟩
  · exact ⟨.inl h⟩
  · exact ⟨.inr ⟨p, bs, h1, h2, h3.mono hm⟩⟩
theorem RP.here {w w' : World} {v : Option Addr} {o : Option (List Bool)} (h : RP w' (fun k => w.heap.size ≤ k) v o) : RP w' (rng w.heap.size w'.heap.size) v o := by
  rcases h.ex with h | ⟨p, bs, h1, h2, h3⟩
  · exact ⟨.inl h⟩
  · exact ⟨.inr ⟨p, bs, h1, h2, h3.bound⟩⟩
theorem RP.drewN {w : World} {ok : Nat → Prop} {v : Option Addr} {o : Option (List Bool)} (h : RP w ok v o) (q : Nat) : RP (w.drewN q) ok v o := h.step (fun k _ hk => rfl)
theorem RP.alloc {w : World} {ok : Nat → Prop} {v : Option Addr} {o : Option (List Bool)} (h : RP w ok v o) (x : Obj) : RP (w.alloc x) ok v o := h.step (fun k _ hk => Below.heap_alloc w x k hk)
theorem RP.kp {w W : World} {ok S : Nat → Prop} {v : Option Addr} {o : Option (List Bool)} (h : RP w ok v o) (hk : Kp S w W) (hd : ∀ k, ok k → ¬ S k) : RP W ok v o := h.step (fun k ho hlt => hk.block hlt (hd k ho))
theorem RP.none_ (w : World) (ok : Nat → Prop) : RP w ok none none := ⟨.inl ⟨rfl, rfl⟩⟩
theorem RP.set_ {w : World} {ok : Nat → Prop} {p : Nat} {bs : List Bool} (h : RS w ok p bs) : RP w ok (some ⟨p, 0, none⟩) (some bs) := ⟨.inr ⟨p, bs, rfl, rfl, h⟩⟩
theorem RP.vs {w : World} {ok : Nat → Prop} {v : Option Addr} {o : Option (List Bool)} (h : RP w ok v o) : VS w v o.isSome := by
  rcases h.ex with ⟨rfl, rfl⟩ | ⟨p, bs, rfl, rfl, h3⟩
  · exact .inl ⟨rfl, rfl⟩
  · obtain ⟨A, cc, hp, _⟩ := h3.ex
    exact .inr ⟨p, rfl, cell_at hp rfl⟩

/-- An element of a row of Bools of one's own. -/
theorem bool_at {w : World} {ok : Nat → Prop} {e cc : Nat} {A : Option Addr} {bs : List Bool} {n : Nat} (hn : n = bs.length) (h : Kd.R Kd.bool e w 0 ok (.slice A n cc) bs) (i : Nat) (hi : i < bs.length) :
    ∃ g, A = some ⟨g, 0, none⟩ ∧ ok g ∧ w.cell? ⟨g, i, none⟩ = some (.bool (bs.getD i false)) ∧ w.frozen? ⟨g, i, none⟩ = false := by
  subst hn
  obtain ⟨g, cap, e1, _, _, _⟩ := Kd.R_form h (by omega)
  injection e1 with e1 e2 e3
  subst e1
  have h1 := Kd.R_celln false h (i : Int) (by omega) (by omega)
  have e4 : rdOf false bs (i : Int) = bs.getD i false := by unfold rdOf; rw [Int.toNat_natCast]
  rw [Int.toNat_natCast, e4] at h1
  exact ⟨g, rfl, h.1 g rfl, h1⟩

theorem rok_st (v : Option Addr) (b : Bool) (w : World) (h : VS w v b) : Calls Tryd.prog 38 #[.pointer v] w fun e w' => e = .returned (.bool b) ∧ w' = w := by
  rcases h with ⟨rfl, rfl⟩ | ⟨p, rfl, hc⟩
  · go_enter Tryd.func38, Tryd.ntmps38
    go_wp2
    go_ret
    exact ⟨rfl, rfl⟩
  · cases b
    · go_enter Tryd.func38, Tryd.ntmps38
      go_wp2
      go_ret
      exact ⟨rfl, rfl⟩
    · go_enter Tryd.func38, Tryd.ntmps38
      go_wp2
      go_ret
      exact ⟨rfl, rfl⟩
theorem rok_s2 (v : Option Addr) (b : Bool) (w : World) (h : VS w v b) : Calls Tryd.prog 38 #[.pointer v] w fun e w' => e = .returned (.bool b) ∧ w = w' := (rok_st v b w h).mono fun _ _ h => ⟨h.1, h.2.symm⟩

theorem rnew_any (n : Int) (w : World) : Calls Tryd.prog 16 #[.int .i64 n] w fun e w' => ∃ v, e = .returned (.pointer v) ∧ RP w' (fun k => w.heap.size ≤ k) v (newO n) ∧ Kp (fun _ => False) w w' ∧ v.isSome = (newO n).isSome := by
  by_cases h : n < 0 ∨ 65536 < n
  · have e : newO n = none := by unfold newO; rw [if_pos h]
    rw [e]
    by_cases h0 : n < 0
    · clear h e
      go_enter Tryd.func16, Tryd.ntmps16
      go_wp2
      go_ret
      exact ⟨_, rfl, RP.none_ _ _, Kp.refl _ _, rfl⟩
    · have h1 : 65536 < n := by omega
      clear h e
      go_enter Tryd.func16, Tryd.ntmps16
      go_wp2
      go_ret
      exact ⟨_, rfl, RP.none_ _ _, Kp.refl _ _, rfl⟩
  · have e : newO n = some (List.replicate n.toNat false) := by unfold newO; rw [if_neg h]
    rw [e]
    obtain ⟨m, rfl⟩ := Int.eq_ofNat_of_zero_le (show 0 ≤ n by omega)
    have hm : m ≤ 65536 := by omega
    clear h e
    have hmk : ∀ W : World, (Instr.makeSlice 57 (.int .i64 (m : Int)) (.int .i64 (m : Int))).run Tryd.prog W = .ok (.slice (some ⟨W.heap.size, 0, none⟩) m m) (W.alloc (.cells (madeCells #[.bool false] m) 4)) := fun W =>
      run_make_row' 57 4 (.bool false) 1 Tryd.underlying57 infoB rfl .i64 .i64 m (by omega) (by omega) W
    have H : ∀ w : World, RS ((w.alloc (.cells (madeCells #[.bool false] m) 4)).alloc (.cells #[.bool true, .slice (some ⟨w.heap.size, 0, none⟩) m m] 59)) (fun k => w.heap.size ≤ k) (w.heap.size + 1) (List.replicate m false) := by
      intro w
      refine ⟨⟨some ⟨w.heap.size, 0, none⟩, m, ?_, by simp, ?_, by simpa using hm⟩⟩
      · rw [List.length_replicate]
        simpa using heap_alloc_new (w.alloc (.cells (madeCells #[.bool false] m) 4)) (.cells #[.bool true, .slice (some ⟨w.heap.size, 0, none⟩) m m] 59)
      · refine Kd.R_alloc (Kd.R_of_own ?_ (fun k hk => ?_)) _
        · have h := World.ownsRow_lit (base := 0) (e := 4) (size := 1) w (madeCells #[.bool false] m) m (Nat.zero_le _) (by unfold maxLen; omega) (by simp [size_madeCells])
          have hl : (madeCells #[Value.bool false] m).toList = encs Value.bool (List.replicate m false) := by
            apply List.ext_getElem
            · simp [encs, madeCells]
            · intro i h1 h2
              simp [encs, madeCells, Nat.mod_one]
          rw [hl] at h
          simpa using h
        · have : w.heap.size = k := by simpa [Value.ownBlock] using hk
          omega
    have H' := Aside0.mk H
    clear H
    go_enter Tryd.func16, Tryd.ntmps16
    go_wp2
    go_ret
    exact ⟨_, rfl, RP.set_ (by simpa using H'.out w), ((Kp.refl _ w).alloc _).alloc _, rfl⟩

theorem rhas_any (v : Option Addr) (ok : Nat → Prop) (o : Option (List Bool)) (i : Int) (w : World) (h : RP w ok v o) :
    Calls Tryd.prog 20 #[.pointer v, .int .i64 i] w fun e w' => e = .returned (.bool (hasO o i)) ∧ w = w' := by
  have hv := Aside0.mk h.vs
  rcases h.ex with ⟨rfl, rfl⟩ | ⟨p, bs, rfl, rfl, h3⟩
  · clear h
    show Calls _ _ _ _ fun e w' => e = .returned (.bool false) ∧ w = w'
    go_enter Tryd.func20, Tryd.ntmps20
    go_wp2_with (go_at_call 38; refine (rok_s2 none false _ hv.out).mono ?_; rintro e w' ⟨rfl, rfl⟩)
    go_ret
    exact ⟨rfl, rfl⟩
  · obtain ⟨A, cc, hp, okp, hR, hl⟩ := h3.ex
    have c1 : w.cell? ⟨p, 1, none⟩ = some (.slice A bs.length cc) := cell_at hp rfl
    have hR' := Aside0.mk hR
    clear hp hR h3 h
    by_cases h0 : i < 0
    · have e : hasO (some bs) i = false := by unfold hasO; simp [show ¬ 0 ≤ i by omega]
      rw [e]
      clear e
      go_enter Tryd.func20, Tryd.ntmps20
      go_wp2_with (go_at_call 38; refine (rok_s2 _ true _ hv.out).mono ?_; rintro e w' ⟨rfl, rfl⟩)
      go_ret
      exact ⟨rfl, rfl⟩
    · have h1 : 0 ≤ i := by omega
      by_cases h2 : (bs.length : Int) ≤ i
      · have e : hasO (some bs) i = false := by show (decide (0 ≤ i) && bs.getD i.toNat false) = false; rw [getD_past bs _ (by omega)]; simp
        rw [e]
        clear e h0
        go_enter Tryd.func20, Tryd.ntmps20
        go_wp2_with (go_at_call 38; refine (rok_s2 _ true _ hv.out).mono ?_; rintro e w' ⟨rfl, rfl⟩)
        go_ret
        exact ⟨rfl, rfl⟩
      · obtain ⟨j, rfl⟩ := Int.eq_ofNat_of_zero_le h1
        have hj : j < bs.length := by omega
        obtain ⟨g, rfl, _, hc, _⟩ := bool_at rfl hR'.out j hj
        obtain ⟨b, hb⟩ : ∃ b, bs.getD j false = b := ⟨_, rfl⟩
        rw [hb] at hc
        have e : hasO (some bs) (j : Int) = b := by show (decide (0 ≤ (j : Int)) && bs.getD (j : Int).toNat false) = b; rw [Int.toNat_natCast, hb]; simp
        rw [e]
        clear e h0 h1 h2 hb
        go_enter Tryd.func20, Tryd.ntmps20
        go_wp2_with (go_at_call 38; refine (rok_s2 _ true _ hv.out).mono ?_; rintro e w' ⟨rfl, rfl⟩)
        go_ret
        exact ⟨rfl, rfl⟩
end Go.Proofs.YtibjpamnkhnagaaDoor
