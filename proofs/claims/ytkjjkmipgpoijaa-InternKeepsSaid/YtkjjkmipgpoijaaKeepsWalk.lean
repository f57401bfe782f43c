/- InternKeeps: the walk. -/
import Derived.Test.YtkjjkmipgpoijaaTabH
import Derived.Test.YtkjjkmipgpoijaaOpens
set_option linter.unusedVariables false
set_option linter.unusedSimpArgs false
namespace Go.Proofs.Ytkjjkmipgpoijaa
open Go.RowKit Go.Maps Go.Proofs.YtkjjkmipgpoijaaW.PrintWords Mem

theorem row_of_C {w : World} {A : Option Addr} {n e : Nat} {k : IntKind} {ls : List (List Int)} (h : Kd.C (Kd.slice e (Kd.int k)) w A n ls) (i : Nat) (hi : i < n) :
    ∃ ad A2 c2, A = some ad ∧ w.cell? (ad.add i) = some (.slice A2 (ls.getD i []).length c2) ∧ (ls.getD i []).length ≤ c2 ∧ Kd.C (Kd.int k) w A2 (ls.getD i []).length (ls.getD i []) := by
  obtain ⟨ad, cs, hA, hcs, hK, hcell⟩ := ReadsRow.get_ h [] (i : Int) (by omega) (by omega)
  obtain ⟨A', c', rfl, hle', hC'⟩ := hK
  refine ⟨ad, A', c', hA, ?_, by simpa using hle', by simpa using hC'⟩
  have := hcell 0 _ rfl
  simpa [Kd.slice] using this

theorem at_lt (T : List Str) (s : Str) (h : s ∈ T) : 0 ≤ at_ T s ∧ at_ T s < T.length := by
  unfold at_
  rw [if_pos h]
  refine ⟨by omega, ?_⟩
  have : ix T s < T.length := by
    induction T with
    | nil => simp at h
    | cons a r ih =>
      by_cases e : a = s
      · simp [ix, e]
      · have := ih ((List.mem_cons.1 h).resolve_left (fun e' => e e'.symm))
        simp [ix, e]; omega
  omega

/-- The table, the list of the keys, and a row of bytes, side by side. -/
structure St (w W : World) (okT okA ok4 : Nat → Prop) (p : Nat) (lim : Int) (ks : Ks) (v1 v4 : Value) (b : List Int) : Prop where
  T : Tbl W okT p lim ks
  B : Kd.R (Kd.int .u8) 5 W 0 okA v1 b
  R4 : Kd.R Kd.string 9 W 0 ok4 v4 (ks.map strOfNums)
  d1 : ∀ j, okT j → ¬ okA j
  d2 : ∀ j, ok4 j → ¬ okA j
  d3 : ∀ j, okT j → ¬ ok4 j
  bd : ∀ j, okT j ∨ okA j ∨ ok4 j → w.heap.size ≤ j ∧ j < W.heap.size
  K : Kp (fun j => w.heap.size ≤ j) w W

/-- Between two rounds. -/
structure KI (w W : World) (p : Nat) (lim : Int) (k : Nat) (v4 : Value) (ks : Ks) : Prop where
  ex : ∃ (okT ok4 : Nat → Prop), Tbl W okT p lim ks ∧ Kd.R Kd.string 9 W 0 ok4 v4 (ks.map strOfNums) ∧ (∀ j, okT j → ¬ ok4 j) ∧ (∀ j, okT j ∨ ok4 j → w.heap.size ≤ j ∧ j < W.heap.size) ∧ Kp (fun j => w.heap.size ≤ j) w W
  len : ks.length ≤ k
  small : ∀ l ∈ ks, l.length ≤ 200
  nodup : (ks.map kz).Nodup

theorem St.set {w W : World} {okT okA ok4 : Nat → Prop} {p g n cap : Nat} {lim : Int} {ks : Ks} {v4 : Value} {b : List Int} (h : St w W okT okA ok4 p lim ks (.slice (some ⟨g, 0, none⟩) n cap) v4 b) (i : Nat) (x : Int) :
    St w (W.setCell ⟨g, i, none⟩ (.int .u8 x)) okT okA ok4 p lim ks (.slice (some ⟨g, 0, none⟩) n cap) v4 (b.set i x) := by
  have hg : okA g := h.B.1 g rfl
  have hs : (W.setCell ⟨g, i, none⟩ (.int .u8 x)).heap.size = W.heap.size := by simp [World.setCell]
  refine ⟨h.T.step (fun k hk _ => Below.heap_setCell W _ _ k (fun e => h.d1 k hk (e ▸ hg))), Kd.R_putn h.B i x, Kd.R_far (p := ⟨g, i, none⟩) h.R4 (fun k hk e => h.d2 k hk (e ▸ hg)) _, h.d1, h.d2, h.d3, fun j hj => by rw [hs]; exact h.bd j hj, h.K.setCell (.inl (h.bd g (.inr (.inl hg))).1) _⟩
theorem St.end_ {w W W' : World} {okT okA ok4 okO : Nat → Prop} {p k : Nat} {lim : Int} {ks : Ks} {v1 v4 : Value} {b : List Int} (h : St w W okT okA ok4 p lim ks v1 v4 b) (hk : Kp okO W W') (hO : ∀ j, okO j → W.heap.size ≤ j) (hl : ks.length ≤ k) (hs : ∀ l ∈ ks, l.length ≤ 200) (hn : (ks.map kz).Nodup) : KI w W' p lim k v4 ks := by
  have hz := hk.size
  have hz0 := h.K.size
  refine ⟨⟨okT, ok4, h.T.step (fun j hj hlt => hk.block hlt (fun h' => by have := hO j h'; omega)), Kd.R_step h.R4 (fun j hj hlt => hk.block hlt (fun h' => by have := hO j h'; omega)), h.d3, fun j hj => ?_, h.K.then_ hk (fun j hj => .inr (by have := hO j hj; omega))⟩, hl, hs, hn⟩
  have := h.bd j (hj.elim (fun x => .inl x) (fun x => .inr (.inr x)))
  exact ⟨this.1, by omega⟩

theorem KI.moved {w W W' : World} {p k : Nat} {lim : Int} {v4 : Value} {ks : Ks} (h : KI w W p lim k v4 ks) (hk : Kp (fun _ => False) W W') : KI w W' p lim k v4 ks := by
  obtain ⟨okT, ok4, t1, t4, d3, bd, kp⟩ := h.ex
  have hs := hk.size
  exact ⟨⟨okT, ok4, t1.step (fun j hj hlt => hk.block hlt (fun h => h)), Kd.R_step t4 (fun j hj hlt => hk.block hlt (fun h => h)), d3, fun j hj => ⟨(bd j hj).1, by have := (bd j hj).2; omega⟩, kp.then_ hk (fun _ h => h.elim)⟩, h.len, h.small, h.nodup⟩
theorem len_KI {w W : World} {p k : Nat} {lim : Int} {v4 : Value} {ks : Ks} (h : KI w W p lim k v4 ks) : Calls Try.prog 13 #[.pointer (some ⟨p, 0, none⟩)] W fun e w' => e = .returned (.int .i64 ks.length) ∧ W = w' := by
  obtain ⟨okT, ok4, t1, _⟩ := h.ex
  exact len_tbl p okT lim ks W t1
theorem C_of_R {w : World} {ok : Nat → Prop} {e n c : Nat} {k : IntKind} {A : Option Addr} {l : List Int} (h : Kd.R (Kd.int k) e w 0 ok (.slice A n c) l) : n = l.length ∧ Kd.C (Kd.int k) w A n l := by
  obtain ⟨A', c', e, _, hC⟩ := Kd.R_reads h
  injection e with e1 e2 e3
  subst e1
  subst e2
  exact ⟨rfl, hC⟩

set_option maxRecDepth 100000 in
set_option maxHeartbeats 4000000 in
theorem keeps_walk (A : Option Addr) (c : Nat) (l : List (List Int)) (w : World) (hc : l.length ≤ c) (hC : Kd.C (Kd.slice 5 (Kd.int .u8)) w A l.length l)
    (hg : l.length * 24 ≤ 140737488351232 ∧ ∀ x ∈ l, x.length * 1 ≤ 140737488351232 ∧ ∀ y ∈ x, (Lit.int .u8 y).wf = true) :
    Calls Try.prog 5 #[.slice A l.length c] w fun e w' => e = .returned (.bool true) ∧ Below w.heap.size w w' := by
  clear hg
  have hC' := Aside0.mk hC
  clear hC
  by_cases hl : 40 < l.length
  · have hl' : (40 : Int) < l.length := by omega
    clear hl
    go_enter Try.func5, Try.ntmps5
    go_wp2_with (first
      | (go_at_call 7; refine (awake_any _).mono ?_; rintro e w2 ⟨rfl, hb2⟩))
    go_ret
    exact ⟨rfl, hb2⟩
  · have hl' : (l.length : Int) ≤ 40 := by omega
    have hl40 : l.length ≤ 40 := by omega
    clear hl
    have hcl : Aside0 (clip (l.length : Int) = l.length) := ⟨by unfold clip; rw [if_neg (by omega), if_neg (by omega)]⟩
    go_enter Try.func5, Try.ntmps5
    go_wp2_with (first
      | (go_at_call 11; refine (new_any l.length _).mono ?_; rintro e w2 ⟨p, rfl, T1, K1⟩; rw [hcl.out] at T1; have hI : Aside0 (KI w w2 p l.length 0 (.slice none 0 0) []) := ⟨⟨⟨fun k => w.heap.size ≤ k ∧ k < w2.heap.size, fun _ => False, T1.bound, Kd.R_nil _ _ _ _ _, fun j _ h => h, fun j hj => hj.elim id False.elim, K1.mono (fun _ h => h.elim)⟩, Nat.le_refl _, fun l hl => by simp at hl, List.nodup_nil⟩⟩; clear T1 K1))
    go_loopw [4, 29] (fun v4 v wr => ∃ (k : Nat) (ks : Ks) (B : Option Addr) (c4 : Nat), k ≤ l.length ∧ v = .int .i64 k ∧ v4 = .slice B ks.length c4 ∧ Aside0 (KI w wr p l.length k (.slice B ks.length c4) ks)) (fun _ v _ => l.length - (intOf v).toNat)
    case atStart => exact ⟨0, [], none, 0, Nat.zero_le _, rfl, rfl, hI⟩
    case round =>
      clear hI
      obtain ⟨k, ks, B, c4, hk, rfl, rfl, hI⟩ := hrel
      obtain ⟨wo, rfl⟩ : ∃ wo : World, wo = wr := ⟨_, rfl⟩
      by_cases hlt : k < l.length
      · obtain ⟨okT, ok4, t1, t4, d3, bd, kp⟩ := hI.out.ex
        obtain ⟨ad, A2, c2, hA, q0, hl2, hC2⟩ := row_of_C hC'.out k hlt
        obtain ⟨key, hkey⟩ : ∃ key, key = l.getD k [] := ⟨_, rfl⟩
        rw [← hkey] at q0 hl2 hC2
        clear hkey
        subst hA
        have hbel : Below w.heap.size w wo := kp.below (fun _ h => h)
        have g0 : wo.cell? (ad.add k) = some (.slice A2 key.length c2) := (hbel.cell (World.block_lt_of_cell? w _ q0)).trans q0
        have hk1 : (k : Int) < l.length := by omega
        have hks : ks.length ≤ k := hI.out.len
        have hX := Aside0.mk (And.intro t1 (And.intro t4 (And.intro d3 (And.intro bd (And.intro kp (And.intro hbel hC2))))))
        clear t1 t4 d3 bd kp hbel hC2 q0 hl2
        by_cases h2 : 200 < key.length
        · have h2' : (200 : Int) < key.length := by omega
          clear h2
          go_wp2_with (first
            | (go_at_call 7; refine (awake_any _).mono ?_; rintro e w2 ⟨rfl, hb2⟩))
          go_ret
          exact ⟨rfl, hX.out.2.2.2.2.2.1.trans (hb2.mono hX.out.2.2.2.2.2.1.size)⟩
        · have h2' : (key.length : Int) ≤ 200 := by omega
          have h2n : key.length ≤ 200 := by omega
          clear h2
          have hE : Aside0 (Kd.R (Kd.int .u8) 5 (wo.alloc (.cells #[] 5)) 0 (fun k => wo.heap.size ≤ k) (.slice (some ⟨wo.heap.size, 0, none⟩) 0 0) []) := ⟨own_empty wo 0 5 (fun k => wo.heap.size ≤ k) (Nat.le_refl _)⟩
          have hCe : Aside0 (Kd.C (Kd.int .u8) (wo.alloc (.cells #[] 5)) A2 key.length key) := ⟨Kd.C_alloc (Kd.C_below hX.out.2.2.2.2.2.2 hX.out.2.2.2.2.2.1) _⟩
          by_cases hin : kz key ∈ ks.map kz
          · have hin' := Aside0.mk hin
            obtain ⟨a, ha⟩ : ∃ a, a = at_ (ks.map kz) (kz key) := ⟨_, rfl⟩
            have hal := at_lt (ks.map kz) (kz key) hin
            rw [← ha, List.length_map] at hal
            have ha0 := hal.1
            have ha1 := hal.2
            have hae : (a == (ks.length : Int)) = false := by rw [beq_eq_false_iff_ne]; omega
            have ha' := Aside0.mk ha
            clear ha hal hin
            go_wp2_with (first
              | (at_builtin; refine Kd.R_append_rows (Kd.int .u8) (Rr := fun x cs => cs = [.int .u8 x]) 0 (by rfl) (.tmp 37) (.tmp 38) 22 5 (.int .u8 0) 1 (by rfl) Try.underlying22 info5 rfl (by decide) (by decide) (.slice (some ⟨wo.heap.size, 0, none⟩) 0 0) [] key A2 key.length c2 (fun k => wo.heap.size ≤ k) (fun _ => False) (by rfl) (by rfl) hE.out hCe.out (fun _ _ h => h) (fun _ h => h.elim) (fun k hk => by simp at hk; omega) (Below.refl _ _) (Nat.zero_le _) (by simp; omega) ?_; intro v1 wa hRA hBA hgA hatA; simp only [List.nil_append] at hRA; obtain ⟨A1, cA, rfl, _, _⟩ := Kd.R_reads hRA; have ka : Kp (fun _ => False) wo wa := ((Kp.refl _ wo).alloc _).grown hgA (fun k hk => .inr (by simp [Value.ownBlock] at hk; omega)); have hA := Aside0.mk (And.intro hRA (And.intro ka trivial)); clear hRA hBA hgA hatA ka)
              | (go_at_call 15; refine (add_old p okT _ ks key.length cA A1 key wa (hX.out.1.step (fun j hj hlt => hA.out.2.1.block hlt (fun h => h))) (C_of_R hA.out.1).2 (by rw [str_size]; unfold maxLen; omega) hin'.out).mono ?_; rw [← ha'.out]; rintro e wt ⟨rfl, q, rfl⟩))
            have hS0 : Aside0 (St w (wa.drewN q) okT (fun j => wo.heap.size ≤ j ∧ j < wa.heap.size) ok4 p l.length ks (.slice A1 key.length cA) (.slice B ks.length c4) key) := ⟨⟨(hX.out.1.step (fun j hj hlt => hA.out.2.1.block hlt (fun h => h))).drewN q, Kd.R_drewN (Kd.R_mono (Kd.R_bound hA.out.1) (fun j hj => ⟨hj.1, hj.2.2.1⟩)) q, Kd.R_drewN (Kd.R_step hX.out.2.1 (fun j hj hlt => hA.out.2.1.block hlt (fun h => h))) q, fun j h h' => by have := (hX.out.2.2.2.1 j (.inl h)).2; omega, fun j h h' => by have := (hX.out.2.2.2.1 j (.inr h)).2; omega, hX.out.2.2.1, fun j hj => by
              have hs := hA.out.2.1.size
              have hs0 := hX.out.2.2.2.2.1.size
              rcases hj with h | h | h
              · have := hX.out.2.2.2.1 j (.inl h); exact ⟨this.1, by show j < wa.heap.size; omega⟩
              · exact ⟨by omega, h.2⟩
              · have := hX.out.2.2.2.1 j (.inr h); exact ⟨this.1, by show j < wa.heap.size; omega⟩, ((hX.out.2.2.2.2.1.then_ hA.out.2.1 (fun _ h => h.elim)).drewN q)⟩⟩
            obtain ⟨wt, hwt⟩ : ∃ wt, wt = wa.drewN q := ⟨_, rfl⟩
            rw [← hwt] at hS0 ⊢
            clear hwt
            have hS : Aside0 (∃ okT okA ok4, St w wt okT okA ok4 p l.length ks (.slice A1 key.length cA) (.slice B ks.length c4) key) := ⟨okT, _, ok4, hS0.out⟩
            have hF : Aside0 (ks.length ≤ k + 1 ∧ (∀ l ∈ ks, l.length ≤ 200) ∧ (ks.map kz).Nodup) := ⟨by omega, hI.out.small, hI.out.nodup⟩
            clear hS0 hX hI hE hCe hA hin' ha' g0
            go_loopw [75] (fun v wx => ∃ (j : Nat) (b : List Int), j ≤ key.length ∧ v = .int .i64 j ∧ Aside0 (b.length = key.length) ∧ Aside0 (∃ okT okA ok4, St w wx okT okA ok4 p l.length ks (.slice A1 key.length cA) (.slice B ks.length c4) b)) (fun v _ => key.length - (intOf v).toNat)
            case atStart => exact ⟨0, key, Nat.zero_le _, rfl, ⟨rfl⟩, hS⟩
            case round =>
              clear hS
              obtain ⟨j, b, hj, rfl, hbl, hS⟩ := hrel
              obtain ⟨wx, rfl⟩ : ∃ wx : World, wx = wr := ⟨_, rfl⟩
              by_cases hlt2 : j < key.length
              · obtain ⟨okT, okA, ok4, hSx⟩ := hS.out
                obtain ⟨g, cap, e1, _, _, _⟩ := Kd.R_form hSx.B (by rw [hbl.out]; omega)
                injection e1 with e1 e2 e3
                subst e1
                have hc0 := Kd.R_celln 0 hSx.B j (by omega) (by omega)
                obtain ⟨x, hx⟩ : ∃ x, x = rdOf (0 : Int) b j := ⟨_, rfl⟩
                rw [← hx] at hc0
                have hc1 : wx.cell? ⟨g, j, none⟩ = some (.int .u8 x) := hc0.1
                have hf1 : wx.frozen? ⟨g, j, none⟩ = false := hc0.2
                have hj1 : (j : Int) < key.length := by omega
                have hj0 : (0 : Int) ≤ j := by omega
                have hSx' := Aside0.mk hSx
                clear hSx hx hc0 e2 e3 hS
                go_wp2
                go_roundw
                case rel => exact ⟨j + 1, b.set j _, by omega, by go_num, ⟨by rw [List.length_set]; exact hbl.out⟩, ⟨okT, okA, ok4, hSx'.out.set j _⟩⟩
                case measure => simp [intOf]; omega
              · obtain ⟨okT, okA, ok4, hSx⟩ := hS.out
                have hSx' := Aside0.mk hSx
                clear hSx hS
                go_wp2_with (go_at_call 19; refine (key_any p okT _ ks a _ hSx'.out.T hF.out.2.1 (by have := hF.out.1; omega)).mono ?_; rintro e wk ⟨v, rfl, hRo, kk⟩; obtain ⟨Ao, co, rfl, _, _⟩ := Kd.R_reads hRo; obtain ⟨no, hno⟩ : ∃ no, no = (keyf ks a).length := ⟨_, rfl⟩; rw [← hno] at hRo ⊢; have hno' := Aside0.mk hno; clear hno; have hRo' := Aside0.mk hRo; have hkk := Aside0.mk kk; clear hRo kk)
                have hnb : no ≤ 200 := by
                  rw [hno'.out]
                  unfold keyf
                  split
                  · rename_i h
                    obtain ⟨i, hi⟩ := Int.eq_ofNat_of_zero_le h.1
                    have hi2 : i < (ks).length := by omega
                    rw [hi, Int.toNat_natCast, List.getD_eq_getElem?_getD, List.getElem?_eq_getElem hi2]
                    exact hF.out.2.1 _ (List.getElem_mem hi2)
                  · simp
                go_loopw [90] (fun v wy => ∃ (j : Nat) (o : List Int), j ≤ no ∧ v = .int .i64 j ∧ Aside0 (o.length = no) ∧ Aside0 (Kd.R (Kd.int .u8) 5 wy 0 (fun k => wx.heap.size ≤ k) (.slice Ao no co) o) ∧ Aside0 (Kp (fun k => wx.heap.size ≤ k) wk wy)) (fun v _ => no - (intOf v).toNat)
                case atStart => exact ⟨0, keyf ks a, Nat.zero_le _, rfl, ⟨hno'.out.symm⟩, hRo', ⟨Kp.refl _ _⟩⟩
                case round =>
                  clear hRo'
                  obtain ⟨j2, o, hj2, rfl, hol, hO, hOK⟩ := hrel
                  by_cases hlt3 : j2 < no
                  · obtain ⟨g, cap, e1, _, _, _⟩ := Kd.R_form hO.out (by rw [hol.out]; omega)
                    injection e1 with e1 e2 e3
                    subst e1
                    have hc0 := Kd.R_celln 0 hO.out j2 (by omega) (by omega)
                    have hf1 : wr.frozen? ⟨g, j2, none⟩ = false := hc0.2
                    have hc1 : ∃ x, wr.cell? ⟨g, j2, none⟩ = some (.int .u8 x) := ⟨_, hc0.1⟩
                    obtain ⟨x, hc1⟩ := hc1
                    have hj1 : (j2 : Int) < no := by omega
                    have hj0 : (0 : Int) ≤ j2 := by omega
                    clear hc0 e2 e3
                    go_wp2
                    go_roundw
                    case rel => exact ⟨j2 + 1, o.set j2 0, by omega, by go_num, ⟨by rw [List.length_set]; exact hol.out⟩, ⟨Kd.R_putn hO.out j2 0⟩, ⟨hOK.out.setCell (.inl (hO.out.1 g rfl)) _⟩⟩
                    case measure => simp [intOf]; omega
                  · have hEnd : Aside0 (KI w wr p l.length (k + 1) (.slice B ks.length c4) (ks)) := ⟨hSx'.out.end_ ((hkk.out.mono (fun _ h => h.elim)).then_ hOK.out (fun j h => .inl h)) (fun j h => h) hF.out.1 hF.out.2.1 hF.out.2.2⟩
                    clear hO hOK hSx' hkk hno' hF
                    go_wp2
                    go_roundw
                    case rel => exact ⟨k + 1, ks, B, c4, by omega, by go_num, by rfl, hEnd⟩
                    case measure => simp [intOf]; omega
          · have hin' := Aside0.mk hin
            have hcl2 : ks.length < l.length := by omega
            clear hin
            go_wp2_with (first
              | (at_builtin; refine Kd.R_append_rows (Kd.int .u8) (Rr := fun x cs => cs = [.int .u8 x]) 0 (by rfl) (.tmp 37) (.tmp 38) 22 5 (.int .u8 0) 1 (by rfl) Try.underlying22 info5 rfl (by decide) (by decide) (.slice (some ⟨wo.heap.size, 0, none⟩) 0 0) [] key A2 key.length c2 (fun k => wo.heap.size ≤ k) (fun _ => False) (by rfl) (by rfl) hE.out hCe.out (fun _ _ h => h) (fun _ h => h.elim) (fun k hk => by simp at hk; omega) (Below.refl _ _) (Nat.zero_le _) (by simp; omega) ?_; intro v1 wa hRA hBA hgA hatA; simp only [List.nil_append] at hRA; obtain ⟨A1, cA, rfl, _, _⟩ := Kd.R_reads hRA; have ka : Kp (fun _ => False) wo wa := ((Kp.refl _ wo).alloc _).grown hgA (fun k hk => .inr (by simp [Value.ownBlock] at hk; omega)); have hA := Aside0.mk (And.intro hRA (And.intro ka trivial)); clear hRA hBA hgA hatA ka)
              | ((at_builtin; refine Kd.R_append Kd.string (w0 := wb) 0 (by rfl) (.tmp 68) (.tmp 71) 44 9 (.string ByteArray.empty) 16 (by rfl) Try.underlying44 info9 rfl (by decide) (by decide) (.slice B ks.length c4) (ks.map strOfNums) (strOfNums key) [.string (strOfNums key)] (fun j => ok4 j ∨ wb.heap.size ≤ j) (fun _ => False) (by rfl) (by rfl) ?_ ?_ ?_ ?_ ?_ (Nat.zero_le _) ?_ ?_)
                 · exact rfl
                 · intro k hk; exact hk.elim
                 · intro k hk; right; exact hk
                 · exact Kd.R_mono hB.out.2.2 (fun k hk => .inl hk)
                 · exact Below.refl _ _
                 · rw [List.length_map]; omega
                 intro v2 wt hR4 hB4 hg4 hat4
                 obtain ⟨B', c4', rfl, _, _⟩ := Kd.R_reads hR4
                 have r5 : (ks.map strOfNums ++ [strOfNums key]).length = ks.length + 1 := by simp
                 rw [r5] at hR4
                 have hD := Aside0.mk (And.intro hR4 hg4)
                 clear hR4 hB4 hg4 hat4)
              | (go_at_call 15; refine (add_new p okT _ ks key.length cA A1 key wa (hX.out.1.step (fun j hj hlt => hA.out.2.1.block hlt (fun h => h))) (Kd.C_kept_own hA.out.1 (fun j hj h => by have := (hX.out.2.2.2.1 j (.inl h)).2; omega)) (by rw [str_size]; unfold maxLen; omega) hin'.out (by omega) (by omega) (by omega)).mono ?_; rintro e wb ⟨rfl, T3, K3⟩; have hR4b : Kd.R Kd.string 9 wb 0 ok4 (.slice B ks.length c4) (ks.map strOfNums) := Kd.R_step hX.out.2.1 (fun j hj hlt => (K3.block (by have := hA.out.2.1.size; omega) (fun h => hX.out.2.2.1 j h hj)).trans (hA.out.2.1.block hlt (fun h => h))); have hB := Aside0.mk (And.intro T3 (And.intro K3 hR4b)); have hcv := Kd.C_string (P := Try.prog) (src := 22) (dst := 9) (c := c2) Try.underlying22 Try.underlying5 Try.underlying9 (Kd.C_below hX.out.2.2.2.2.2.2 (hX.out.2.2.2.2.2.1.trans ((hA.out.2.1.belowB (fun _ h => h.elim) hX.out.2.2.2.2.2.1.size).trans (K3.belowB (fun j h => (hX.out.2.2.2.1 j (.inl h)).1) (by have := hX.out.2.2.2.2.2.1.size; have := hA.out.2.1.size; omega))))); clear T3 K3 hR4b))
            have hF : Aside0 ((ks ++ [key]).length ≤ k + 1 ∧ (∀ l ∈ ks ++ [key], l.length ≤ 200) ∧ ((ks ++ [key]).map kz).Nodup) := ⟨by simp; omega, fun x hx => by
                rcases List.mem_append.1 hx with hx | hx
                · exact hI.out.small x hx
                · rw [List.mem_singleton.1 hx]; exact h2n, by
                rw [List.map_append, List.nodup_append]
                refine ⟨hI.out.nodup, by simp, fun x hx y hy e => ?_⟩
                have : y = kz key := by simpa using hy
                exact hin'.out (by rw [← this, ← e]; exact hx)⟩
            have hS : Aside0 (∃ okT okA ok4, St w wt okT okA ok4 p l.length (ks ++ [key]) (.slice A1 key.length cA) (.slice B' (ks ++ [key]).length c4') key) := ⟨by
              have hs := hA.out.2.1.size
              have hs0 := hX.out.2.2.2.2.1.size
              have hs2 := hB.out.2.1.size
              have hs3 := hD.out.2.size
              have hrow : ∀ j, some j = (Value.slice B ks.length c4).ownBlock → ok4 j := fun j e => hX.out.2.1.1 j e.symm
              have gk : ∀ j, j < wb.heap.size → ¬ ok4 j → wt.heap[j]? = wb.heap[j]? := fun j hj hn => hD.out.2.block j hj (fun e => hn (hrow j e))
              refine ⟨fun j => (okT j ∨ wa.heap.size ≤ j) ∧ j < wb.heap.size, fun j => wo.heap.size ≤ j ∧ j < wa.heap.size, fun j => (ok4 j ∨ wb.heap.size ≤ j) ∧ j < wt.heap.size, hB.out.1.bound.step (fun j hj hlt => gk j hlt (fun h => ?_)), Kd.R_step (Kd.R_mono (Kd.R_bound hA.out.1) (fun j hj => ⟨hj.1, hj.2.2.1⟩)) (fun j hj hlt => (gk j (by omega) (fun h => ?_)).trans (hB.out.2.1.block hlt (fun h => ?_))), ?_, fun j h h' => ?_, fun j h h' => ?_, fun j h h' => ?_, fun j hj => ?_, ?_⟩
              · rcases hj.1 with h1 | h1
                · exact hX.out.2.2.1 j h1 h
                · have := (hX.out.2.2.2.1 j (.inr h)).2; omega
              · have := (hX.out.2.2.2.1 j (.inr h)).2; omega
              · have := (hX.out.2.2.2.1 j (.inl h)).2; omega
              · have h7 := Kd.R_mono (Kd.R_bound hD.out.1) (ok' := fun j => (ok4 j ∨ wb.heap.size ≤ j) ∧ j < wt.heap.size) (fun j hj => ⟨hj.1, hj.2.2.1⟩)
                simpa using h7
              · rcases h.1 with h1 | h1
                · have := (hX.out.2.2.2.1 j (.inl h1)).2; omega
                · omega
              · rcases h.1 with h1 | h1
                · have := (hX.out.2.2.2.1 j (.inr h1)).2; omega
                · omega
              · rcases h.1 with h1 | h1
                · rcases h'.1 with h3 | h3
                  · exact hX.out.2.2.1 j h1 h3
                  · omega
                · rcases h'.1 with h3 | h3
                  · have := (hX.out.2.2.2.1 j (.inr h3)).2; omega
                  · omega
              · rcases hj with h | h | h
                · rcases h.1 with h1 | h1
                  · have := (hX.out.2.2.2.1 j (.inl h1)).1; omega
                  · omega
                · omega
                · rcases h.1 with h1 | h1
                  · have := (hX.out.2.2.2.1 j (.inr h1)).1; omega
                  · omega
              · exact ((hX.out.2.2.2.2.1.then_ hA.out.2.1 (fun _ h => h.elim)).then_ hB.out.2.1 (fun j h => .inl (hX.out.2.2.2.1 j (.inl h)).1)).grown hD.out.2 (fun j e => .inl (hX.out.2.2.2.1 j (.inr (hrow j e.symm))).1)⟩
            clear hX hI hE hCe hA hin' g0 hB hD hcv
            go_loopw [75] (fun v wx => ∃ (j : Nat) (b : List Int), j ≤ key.length ∧ v = .int .i64 j ∧ Aside0 (b.length = key.length) ∧ Aside0 (∃ okT okA ok4, St w wx okT okA ok4 p l.length (ks ++ [key]) (.slice A1 key.length cA) (.slice B' (ks ++ [key]).length c4') b)) (fun v _ => key.length - (intOf v).toNat)
            case atStart => exact ⟨0, key, Nat.zero_le _, rfl, ⟨rfl⟩, hS⟩
            case round =>
              clear hS
              obtain ⟨j, b, hj, rfl, hbl, hS⟩ := hrel
              obtain ⟨wx, rfl⟩ : ∃ wx : World, wx = wr := ⟨_, rfl⟩
              by_cases hlt2 : j < key.length
              · obtain ⟨okT, okA, ok4, hSx⟩ := hS.out
                obtain ⟨g, cap, e1, _, _, _⟩ := Kd.R_form hSx.B (by rw [hbl.out]; omega)
                injection e1 with e1 e2 e3
                subst e1
                have hc0 := Kd.R_celln 0 hSx.B j (by omega) (by omega)
                obtain ⟨x, hx⟩ : ∃ x, x = rdOf (0 : Int) b j := ⟨_, rfl⟩
                rw [← hx] at hc0
                have hc1 : wx.cell? ⟨g, j, none⟩ = some (.int .u8 x) := hc0.1
                have hf1 : wx.frozen? ⟨g, j, none⟩ = false := hc0.2
                have hj1 : (j : Int) < key.length := by omega
                have hj0 : (0 : Int) ≤ j := by omega
                have hSx' := Aside0.mk hSx
                clear hSx hx hc0 e2 e3 hS
                go_wp2
                go_roundw
                case rel => exact ⟨j + 1, b.set j _, by omega, by go_num, ⟨by rw [List.length_set]; exact hbl.out⟩, ⟨okT, okA, ok4, hSx'.out.set j _⟩⟩
                case measure => simp [intOf]; omega
              · obtain ⟨okT, okA, ok4, hSx⟩ := hS.out
                have hSx' := Aside0.mk hSx
                clear hSx hS
                go_wp2_with (go_at_call 19; refine (key_any p okT _ (ks ++ [key]) (ks.length : Int) _ hSx'.out.T hF.out.2.1 (by have := hF.out.1; omega)).mono ?_; rintro e wk ⟨v, rfl, hRo, kk⟩; obtain ⟨Ao, co, rfl, _, _⟩ := Kd.R_reads hRo; obtain ⟨no, hno⟩ : ∃ no, no = (keyf (ks ++ [key]) (ks.length : Int)).length := ⟨_, rfl⟩; rw [← hno] at hRo ⊢; have hno' := Aside0.mk hno; clear hno; have hRo' := Aside0.mk hRo; have hkk := Aside0.mk kk; clear hRo kk)
                have hnb : no ≤ 200 := by
                  rw [hno'.out]
                  unfold keyf
                  split
                  · rename_i h
                    obtain ⟨i, hi⟩ := Int.eq_ofNat_of_zero_le h.1
                    have hi2 : i < ((ks ++ [key])).length := by omega
                    rw [hi, Int.toNat_natCast, List.getD_eq_getElem?_getD, List.getElem?_eq_getElem hi2]
                    exact hF.out.2.1 _ (List.getElem_mem hi2)
                  · simp
                go_loopw [90] (fun v wy => ∃ (j : Nat) (o : List Int), j ≤ no ∧ v = .int .i64 j ∧ Aside0 (o.length = no) ∧ Aside0 (Kd.R (Kd.int .u8) 5 wy 0 (fun k => wx.heap.size ≤ k) (.slice Ao no co) o) ∧ Aside0 (Kp (fun k => wx.heap.size ≤ k) wk wy)) (fun v _ => no - (intOf v).toNat)
                case atStart => exact ⟨0, keyf (ks ++ [key]) (ks.length : Int), Nat.zero_le _, rfl, ⟨hno'.out.symm⟩, hRo', ⟨Kp.refl _ _⟩⟩
                case round =>
                  clear hRo'
                  obtain ⟨j2, o, hj2, rfl, hol, hO, hOK⟩ := hrel
                  by_cases hlt3 : j2 < no
                  · obtain ⟨g, cap, e1, _, _, _⟩ := Kd.R_form hO.out (by rw [hol.out]; omega)
                    injection e1 with e1 e2 e3
                    subst e1
                    have hc0 := Kd.R_celln 0 hO.out j2 (by omega) (by omega)
                    have hf1 : wr.frozen? ⟨g, j2, none⟩ = false := hc0.2
                    have hc1 : ∃ x, wr.cell? ⟨g, j2, none⟩ = some (.int .u8 x) := ⟨_, hc0.1⟩
                    obtain ⟨x, hc1⟩ := hc1
                    have hj1 : (j2 : Int) < no := by omega
                    have hj0 : (0 : Int) ≤ j2 := by omega
                    clear hc0 e2 e3
                    go_wp2
                    go_roundw
                    case rel => exact ⟨j2 + 1, o.set j2 0, by omega, by go_num, ⟨by rw [List.length_set]; exact hol.out⟩, ⟨Kd.R_putn hO.out j2 0⟩, ⟨hOK.out.setCell (.inl (hO.out.1 g rfl)) _⟩⟩
                    case measure => simp [intOf]; omega
                  · have hEnd : Aside0 (KI w wr p l.length (k + 1) (.slice B' (ks ++ [key]).length c4') ((ks ++ [key]))) := ⟨hSx'.out.end_ ((hkk.out.mono (fun _ h => h.elim)).then_ hOK.out (fun j h => .inl h)) (fun j h => h) hF.out.1 hF.out.2.1 hF.out.2.2⟩
                    clear hO hOK hSx' hkk hno' hF
                    go_wp2
                    go_roundw
                    case rel => exact ⟨k + 1, (ks ++ [key]), B', c4', by omega, by go_num, by simp, hEnd⟩
                    case measure => simp [intOf]; omega
      · have hI9 := hI
        clear hI
        go_wp2
        have hk9 : k = l.length := by omega
        have hIk : Aside0 (KI w wo p l.length l.length (.slice B ks.length c4) ks) := ⟨hk9 ▸ hI9.out⟩
        clear hI9 hk9
        go_loopw [100] (fun v wy => ∃ j : Nat, j ≤ ks.length ∧ v = .int .i64 j ∧ Aside0 (KI w wy p l.length l.length (.slice B ks.length c4) ks)) (fun v _ => ks.length - (intOf v).toNat)
        case atStart => exact ⟨0, Nat.zero_le _, rfl, hIk⟩
        case round =>
          clear hIk
          obtain ⟨j, hj, rfl, hI⟩ := hrel
          by_cases hlt : j < ks.length
          · obtain ⟨okT, ok4, t1, t4, d3, bd, kp⟩ := hI.out.ex
            rcases str_at t4 with ⟨_, e2⟩ | ⟨g, cap, e1, okg, hcell⟩
            · exfalso
              have e3 := congrArg List.length e2
              rw [List.length_map] at e3
              simp only [List.length_nil] at e3
              omega
            · injection e1 with e1 e2 e3
              subst e1
              have hc0 := hcell j (by rw [List.length_map]; exact hlt)
              obtain ⟨x, hx⟩ : ∃ x, x = ks.getD j [] := ⟨_, rfl⟩
              have hxg : ks[j] = x := by rw [hx, List.getD_eq_getElem?_getD, List.getElem?_eq_getElem hlt]; rfl
              have hs0 : (ks.map strOfNums).getD j ByteArray.empty = strOfNums x := by
                rw [List.getD_eq_getElem?_getD, List.getElem?_map, List.getElem?_eq_getElem hlt, hxg]
                rfl
              rw [hs0] at hc0
              have hfind := ix_at (ks.map kz) j (kz x) (by rw [List.length_map]; exact hlt) (fun i hi => by
                have hi2 : i < ks.length := by omega
                rw [List.getD_eq_getElem?_getD, List.getElem?_map, List.getElem?_eq_getElem hi2, ← hxg]
                intro e
                have h9 := hI.out.nodup
                rw [List.nodup_iff_pairwise_ne] at h9
                have h10 := List.pairwise_iff_getElem.1 h9 i j (by simpa using hi2) (by simpa using hlt) hi
                simp at h10
                exact h10 (by simpa using e)) (by
                rw [List.getD_eq_getElem?_getD, List.getElem?_map, List.getElem?_eq_getElem hlt, hxg]
                rfl)
              have hkf : keyf ks (j : Int) = x := by
                unfold keyf
                rw [if_pos ⟨by omega, by omega⟩, Int.toNat_natCast, ← hx]
              have hxl : x.length ≤ 200 := by rw [← hxg]; exact hI.out.small _ (List.getElem_mem hlt)
              obtain ⟨s, hs⟩ : ∃ s, s = strOfNums x := ⟨_, rfl⟩
              have hsz : s.size ≤ 200 := by rw [hs, str_size]; exact hxl
              rw [← hs] at hc0
              have kb := fun W => print_bytes (P := Try.prog) 9 22 5 Try.underlying9 Try.underlying22 Try.underlying5 s W
              have hks9 : ks.length ≤ 65536 := by have := hI.out.len; omega
              have hkb : kz (bytesOf s) = kz x := by rw [hs]; unfold kz; rw [str_back]
              have hX := Aside0.mk (And.intro t1 (And.intro hfind (And.intro hkf (And.intro hs (And.intro hkb hI.out)))))
              have hj1 : (j : Int) < ks.length := by omega
              have hj0 : (0 : Int) ≤ j := by omega
              have kbw : Aside0 (Kp (fun _ => False) wr (Lib.bytesWorld wr 5 s)) := ⟨Kp.of_below (bytes_below (Below.refl _ _) (Nat.le_refl _) 5 s) _⟩
              clear t1 t4 d3 bd kp hcell e2 e3 hx hxg hs0 hfind hkf hs hkb hI
              go_wp2_with (first
                | (go_at_call 17; refine (find_any p okT _ ks s.size _ _ (bytesOf s) (Lib.bytesWorld wr 5 s) (hX.out.1.step (fun j hj hlt => kbw.out.block hlt (fun h => h))) (C_int_of_reads (bytes_reads wr 5 s (by omega))) (by rw [str_size, bytesOf_length]; unfold maxLen; omega)).mono ?_; rw [hX.out.2.2.2.2.1, hX.out.2.1.1, hX.out.2.1.2]; rintro e w5 ⟨rfl, q5, rfl⟩)
                | (go_at_call 19; refine (key_any p okT _ ks (j : Int) _ ((hX.out.1.step (fun j hj hlt => kbw.out.block hlt (fun h => h))).drewN _) hX.out.2.2.2.2.2.small (by omega)).mono ?_; rintro e w6 ⟨v, rfl, hRo, kk⟩; rw [hX.out.2.2.1] at hRo; obtain ⟨Ao, co, rfl, _, hCo⟩ := Kd.R_reads hRo; have hcv := Kd.C_string (P := Try.prog) (src := 22) (dst := 9) (c := co) Try.underlying22 Try.underlying5 Try.underlying9 hCo; rw [← hX.out.2.2.2.1] at hcv; have hY := Aside0.mk kk; clear hRo kk hCo))
              go_roundw
              case rel => exact ⟨j + 1, by omega, by go_num, ⟨hX.out.2.2.2.2.2.moved ((kbw.out.drewN _).then_ hY.out (fun _ h => h.elim))⟩⟩
              case measure => simp [intOf]; omega
          · have hI2 := Aside0.mk hI.out
            clear hI
            go_wp2_with (first
              | (go_at_call 7; refine (awake_any _).mono ?_; rintro e w2 ⟨rfl, hb2⟩)
              | (go_at_call 13; refine (len_KI (hI2.out.moved (Kp.of_below hb2 _))).mono ?_; rintro e w3 ⟨rfl, rfl⟩))
            go_ret
            obtain ⟨_, _, _, _, _, _, kp⟩ := hI2.out.ex
            exact ⟨rfl, (kp.below (fun _ h => h)).trans (hb2.mono kp.size)⟩

end Go.Proofs.Ytkjjkmipgpoijaa
