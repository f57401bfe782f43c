/- What awake answers: the document's fixed results. -/
import Derived.Test.YtjkclhpibielfaaFrI
set_option linter.unusedVariables false
set_option linter.unusedSimpArgs false
namespace Go.Proofs.Ytjkclhpibielfaa
open Go.RowKit Go.Proofs.YtjkclhpibielfaaW.PrintWords Go.Proofs.Ytjkclhpibielfaa.PDigraphTells Mem

/-- The example's world: its graph lies at gb, and its rows are still there. -/
structure AW (w wi : World) (gb : Nat) (A : Option Addr) (c : Nat) : Prop where
  b : Below w.heap.size w wi
  C : Kd.C kG wi A 4 Dia
  g : wi.heap[gb]? = some (.cells #[.slice A 4 c] 24 (0, 0))
theorem AW.step {w wi wj : World} {gb : Nat} {A : Option Addr} {c : Nat} (h : AW w wi gb A c) (hb : Below wi.heap.size wi wj) : AW w wj gb A c :=
  ⟨h.b.trans (hb.mono h.b.size), Kd.C_below h.C hb, (hb.block gb (by have := h.g; rw [Array.getElem?_eq_some_iff] at this; exact this.1)).trans h.g⟩
theorem AW.cell {w wi : World} {gb : Nat} {A : Option Addr} {c : Nat} (h : AW w wi gb A c) : wi.cell? ⟨gb, 0, none⟩ = some (.slice A 4 c) := cell_at h.g rfl

theorem lit_ints (w : World) (cs : Array Value) (e : Nat) (xs : List Int) (g : Nat) (hg : w.heap.size = g) (hcs : cs.toList = xs.map (Value.int .i64)) (hm : xs.length ≤ 1000) : Kd.C (Kd.int .i64) (w.alloc (.cells cs e (0, 0))) (some ⟨g, 0, none⟩) xs.length xs := by
  subst hg
  refine ⟨rfl, by omega, fun _ => ⟨_, rfl, fun j p hj => ⟨[.int .i64 p], rfl, rfl, fun i u hu => ?_⟩⟩⟩
  rcases i with _ | i
  · simp at hu
    subst hu
    rw [show (Kd.int IntKind.i64).sz = 1 from rfl, Nat.mul_one, Nat.add_zero, show (⟨w.heap.size, 0, none⟩ : Addr).add j = ⟨w.heap.size, j, none⟩ from by rcases j with _ | j <;> simp [Addr.add]]
    refine Mem.cell_at (heap_alloc_new w _) ?_
    rw [← Array.getElem?_toList, hcs]
    simp [hj]
  · simp at hu
theorem lit_one (w : World) (v : Value) (e : Nat) (x : List Int) (A : Option Addr) (c : Nat) (g : Nat) (hg : w.heap.size = g) (hv : v = .slice A x.length c) (hc : x.length ≤ c) (hC : Kd.C (Kd.int .i64) w A x.length x) : Kd.C kG (w.alloc (.cells #[v] e (0, 0))) (some ⟨g, 0, none⟩) 1 [x] := by
  subst hv
  subst hg
  refine ⟨rfl, by simp, fun _ => ⟨_, rfl, fun j p hj => ⟨[.slice A x.length c], rfl, ?_, fun i u hu => ?_⟩⟩⟩
  · rcases j with _ | j
    · simp at hj
      subst hj
      exact ⟨A, c, rfl, hc, Kd.C_alloc hC _⟩
    · simp at hj
  · rcases j with _ | j
    · rcases i with _ | i
      · simp at hu
        subst hu
        exact Mem.cell_at (heap_alloc_new w _) rfl
      · simp at hu
    · simp at hj

theorem check_long (A : Option Addr) (c : Nat) (w : World) (hC : Kd.C kG w A 65537 (List.replicate 65537 [])) (hc : 65537 ≤ c) :
    Calls Try.prog 7 #[.agg #[.slice A 65537 c]] w fun e w' => e = .returned (.int .i64 11) ∧ Below w.heap.size w w' := by
  have h := check_any A c (List.replicate 65537 []) w
  rw [List.length_replicate] at h
  exact h hC hc ⟨by rw [List.length_replicate]; decide, fun l hl => by rw [List.mem_replicate] at hl; rw [hl.2]; decide⟩ 11 dia_long
theorem same_lit (A : Option Addr) (c : Nat) (x : List Int) (cs : Array Value) (n : Nat) (w : World) (g : Nat) (hg : w.heap.size = g) (hA : Kd.C (Kd.int .i64) w A n x) (hc : n ≤ c) (hcs : cs.toList = x.map (Value.int .i64)) (hm : x.length ≤ 1000) (hn : x.length = n) :
    Calls Try.prog 19 #[.slice A n c, .slice (some ⟨g, 0, none⟩) n n] (w.alloc (.cells cs 3 (0, 0))) fun e w' => e = .returned (.bool true) ∧ Below w.heap.size w w' := by
  subst hn
  refine (same_any A c x (some ⟨g, 0, none⟩) x.length x _ (Kd.C_alloc hA _) hc (lit_ints w cs 3 x g hg hcs hm) (Nat.le_refl _) (by omega) true (by simp)).mono ?_
  rintro e w' ⟨rfl, B⟩
  exact ⟨rfl, (below_alloc (Below.refl _ w) _).trans (B.mono (by simp))⟩

set_option maxRecDepth 100000 in
set_option maxHeartbeats 4000000 in
theorem awake_any (w : World) : Calls Try.prog 10 #[] w fun e w' => e = .returned (.bool true) ∧ Below w.heap.size w w' := by
  have hfl := field_succs
  have hu24 := Try.underlying24
  go_enter Try.func10, Try.ntmps10
  go_wp2_with fail
  refine (burnishlaw06_Diamond.calls Dia _ rfl).mono ?_
  rintro e w1 ⟨v, rfl, hN, B1⟩
  obtain ⟨A, c, ev, hc, hC⟩ := Kd.N_reads hN
  subst ev
  obtain ⟨gb, hgb⟩ : ∃ gb, gb = w1.heap.size := ⟨_, rfl⟩
  have hX := Aside0.mk (And.intro hc (And.intro hC B1))
  rw [show Value.slice A Dia.length c = Value.slice A 4 c from rfl]
  clear hN B1 hc hC
  go_wp2_with fail
  have H1 : Aside0 (AW w (w1.alloc (.cells #[.slice A 4 c] 24 (0, 0))) gb A c) := ⟨⟨below_alloc hX.out.2.2 _, Kd.C_alloc hX.out.2.1 _, by rw [hgb]; exact heap_alloc_new w1 _⟩⟩
  have hc := Aside0.mk (show Dia.length ≤ c from hX.out.1)
  rw [show Value.pointer (some (⟨w1.heap.size, 0, none⟩ : Addr)) = Value.pointer (some ⟨gb, 0, none⟩) by rw [hgb]]
  obtain ⟨w1', hw1⟩ : ∃ w1', w1' = w1.alloc (.cells #[.slice A 4 c] 24 (0, 0)) := ⟨_, rfl⟩
  rw [← hw1] at H1 ⊢
  clear hX hw1 hgb
  refine (reach_any A c Dia 1 _ H1.out.C hc.out dia_short).mono ?_
  rintro e w2 ⟨vl, rfl, R2, B2⟩
  rw [dia_reach] at R2
  obtain ⟨Al, cl, ev, hl, Cl⟩ := Kd.R_reads R2
  subst ev
  have H2 := Aside0.mk (And.intro (H1.out.step B2) (And.intro hl Cl))
  have c0 := H2.out.1.cell
  clear B2 R2 hl Cl H1
  go_wp2_with fail
  refine (preds_any A c Dia _ H2.out.1.C hc.out dia_short).mono ?_
  rintro e w3 ⟨vp, rfl, R3, B3⟩
  rw [dia_pred] at R3
  obtain ⟨Ap, cp, ev, hp, Cp⟩ := Kd.R_reads R3
  subst ev
  have H3 := Aside0.mk (And.intro (H2.out.1.step B3) (And.intro (Kd.C_below H2.out.2.2 B3) (And.intro hp Cp)))
  clear c0
  have c0 := H3.out.1.cell
  clear B3 R3 hp Cp H2
  go_wp2_with fail
  refine (rev_any A c Dia _ H3.out.1.C hc.out dia_short (fun _ => by decide)).mono ?_
  rintro e w4 ⟨Ar, cr, rfl, hr, Cr, B4⟩
  rw [dia_rev] at hr Cr ⊢
  have H4 := Aside0.mk (And.intro (H3.out.1.step B4) (And.intro (Kd.C_below H3.out.2.1 B4) (And.intro (Kd.C_below H3.out.2.2.2 B4) Cr)))
  clear c0
  have c0 := H4.out.1.cell
  clear B4 hr Cr H3
  go_wp2_with fail
  refine (check_any A c Dia _ H4.out.1.C hc.out dia_short 0 dia_chk).mono ?_
  rintro e w5 ⟨rfl, B5⟩
  have H5 := Aside0.mk (And.intro (H4.out.1.step B5) (And.intro (Kd.C_below H4.out.2.1 B5) (And.intro (Kd.C_below H4.out.2.2.1 B5) (Kd.C_below H4.out.2.2.2 B5))))
  clear c0
  have c0 := H5.out.1.cell
  clear B5 H4
  go_wp2_with fail
  refine (check_any (some ⟨w5.heap.size + 1, 0, none⟩) 1 [[1]] _ (lit_one (w5.alloc (.cells #[.int .i64 1] 3 (0, 0))) (.slice (some ⟨w5.heap.size, 0, none⟩) 1 1) 36 [1] (some ⟨w5.heap.size, 0, none⟩) 1 (w5.heap.size + 1) (by simp) rfl (by decide) (lit_ints w5 _ 3 [1] w5.heap.size rfl rfl (by decide))) (by decide) ⟨by decide, by decide⟩ 10 dia_bad).mono ?_
  rintro e w6 ⟨rfl, B6⟩
  have bb : Below w5.heap.size w5 w6 := (below_alloc (below_alloc (Below.refl _ w5) _) _).trans (B6.mono (by simp; omega))
  have H6 := Aside0.mk (And.intro (H5.out.1.step bb) (And.intro (Kd.C_below H5.out.2.1 bb) (And.intro (Kd.C_below H5.out.2.2.1 bb) (Kd.C_below H5.out.2.2.2 bb))))
  clear c0
  have c0 := H6.out.1.cell
  clear B6 H5 bb
  have i36 := info36
  have hnil : ∀ (W : World), Kd.M kG W 0 (fun _ => False) [] (Value.slice none 0 0).cells.toList := fun W => ⟨.slice none 0 0, rfl, Kd.R_nil _ _ _ _ _⟩
  simp only []
  iterate 7 (first | go_guarded | go_step)
  change wpList _ _ _ (_ :: _) _ _
  refine wpList_step fun K hK => ?_
  refine Kd.R_make_step kG (w0 := w6) 0 36 (by rfl) (N := 37) (by rfl) 22 (.const (.int .i64 65537)) (.const (.int .i64 65537)) (by rfl) (65537 : Int) (by rfl) (by rfl) Try.underlying22 (.slice none 0 0) 24 i36 rfl (by decide) (by decide) [] (ok := fun k => w6.heap.size ≤ k) (okp := fun _ => False) (hnil _) (fun _ h => h.elim) (Nat.le_refl _) (by decide) (by decide) ((Kp.refl (fun _ => False) w6).belowB (fun _ h => h.elim) (Nat.zero_le _)) (Nat.zero_le _) ?_
  intro v1 w7 hR hB hg hat
  rw [show (65537 : Int).toNat = 65537 from rfl] at hR
  obtain ⟨A7, c7, hv, hc7, C7⟩ := Kd.R_reads hR
  rw [List.length_replicate] at hv hc7 C7
  subst hv
  have b7 : Below w6.heap.size w6 w7 := ((Kp.refl (fun _ => False) w6).grown hg (fun k hk => by cases hk)).none_below
  have H7 := Aside0.mk (And.intro (H6.out.1.step b7) (And.intro (Kd.C_below H6.out.2.1 b7) (And.intro (Kd.C_below H6.out.2.2.1 b7) (And.intro (Kd.C_below H6.out.2.2.2 b7) (And.intro hc7 C7)))))
  clear c0
  have c0 := H7.out.1.cell
  clear hR hB hg hat hc7 C7 b7 H6
  refine hK _ _ ?_
  clear hK
  go_wp2_with fail
  refine (check_long A7 c7 _ H7.out.2.2.2.2.2 H7.out.2.2.2.2.1).mono ?_
  rintro e w8 ⟨rfl, B8⟩
  have H8 := Aside0.mk (And.intro (H7.out.1.step B8) (And.intro (Kd.C_below H7.out.2.1 B8) (And.intro (Kd.C_below H7.out.2.2.1 B8) (Kd.C_below H7.out.2.2.2.1 B8))))
  clear c0
  have c0 := H8.out.1.cell
  clear B8 H7
  go_wp2_with fail
  refine (post_any A c Dia 0 _ H8.out.1.C hc.out dia_short).mono ?_
  rintro e w9 ⟨v9, rfl, R9, B9⟩
  rw [dia_post0] at R9
  obtain ⟨A9, c9, ev, hc9, C9⟩ := Kd.R_reads R9
  subst ev
  have H9 := Aside0.mk (And.intro (H8.out.1.step B9) (And.intro (Kd.C_below H8.out.2.1 B9) (And.intro (Kd.C_below H8.out.2.2.1 B9) (And.intro (Kd.C_below H8.out.2.2.2 B9) (And.intro hc9 C9)))))
  clear c0
  have c0 := H9.out.1.cell
  clear R9 B9 hc9 C9 H8
  go_wp2_with fail
  refine (same_lit A9 c9 [3, 2, 1, 0] _ _ w9 _ rfl H9.out.2.2.2.2.2 H9.out.2.2.2.2.1 rfl (by decide) rfl).mono ?_
  rintro e wa ⟨rfl, Ba⟩
  have Ha := Aside0.mk (And.intro (H9.out.1.step Ba) (And.intro (Kd.C_below H9.out.2.1 Ba) (And.intro (Kd.C_below H9.out.2.2.1 Ba) (Kd.C_below H9.out.2.2.2.1 Ba))))
  clear c0
  have c0 := Ha.out.1.cell
  clear Ba H9
  go_wp2_with fail
  refine (rpost_any A c Dia 0 _ Ha.out.1.C hc.out dia_short (by decide)).mono ?_
  rintro e wb ⟨v9, rfl, R9, B9⟩
  rw [dia_post0, show [3, 2, 1, 0].reverse = [(0 : Int), 1, 2, 3] from rfl] at R9
  obtain ⟨A9, c9, ev, hc9, C9⟩ := Kd.R_reads R9
  subst ev
  have Hb := Aside0.mk (And.intro (Ha.out.1.step B9) (And.intro (Kd.C_below Ha.out.2.1 B9) (And.intro (Kd.C_below Ha.out.2.2.1 B9) (And.intro (Kd.C_below Ha.out.2.2.2 B9) (And.intro hc9 C9)))))
  clear c0
  have c0 := Hb.out.1.cell
  clear R9 B9 hc9 C9 Ha
  go_wp2_with fail
  refine (same_lit A9 c9 [0, 1, 2, 3] _ _ wb _ rfl Hb.out.2.2.2.2.2 Hb.out.2.2.2.2.1 rfl (by decide) rfl).mono ?_
  rintro e wc ⟨rfl, Ba⟩
  have Hc := Aside0.mk (And.intro (Hb.out.1.step Ba) (And.intro (Kd.C_below Hb.out.2.1 Ba) (And.intro (Kd.C_below Hb.out.2.2.1 Ba) (Kd.C_below Hb.out.2.2.2.1 Ba))))
  clear c0
  have c0 := Hc.out.1.cell
  clear Ba Hb
  go_wp2_with fail
  refine (short_any A c Dia 0 3 _ Hc.out.1.C hc.out dia_short).mono ?_
  rintro e wd ⟨A9, c9, p9, rfl, hc9, hsp, C9, B9⟩
  obtain rfl := dia_path hsp
  have Hd := Aside0.mk (And.intro (Hc.out.1.step B9) (And.intro (Kd.C_below Hc.out.2.1 B9) (And.intro (Kd.C_below Hc.out.2.2.1 B9) (And.intro (Kd.C_below Hc.out.2.2.2 B9) (And.intro hc9 C9)))))
  clear c0
  have c0 := Hd.out.1.cell
  clear B9 hc9 C9 Hc hsp
  go_wp2_with fail
  refine (same_lit A9 c9 [0, 1, 3] _ _ wd _ rfl Hd.out.2.2.2.2.2 Hd.out.2.2.2.2.1 rfl (by decide) rfl).mono ?_
  rintro e we ⟨rfl, Ba⟩
  have He := Aside0.mk (And.intro (Hd.out.1.step Ba) (And.intro (Kd.C_below Hd.out.2.1 Ba) (And.intro (Kd.C_below Hd.out.2.2.1 Ba) (Kd.C_below Hd.out.2.2.2.1 Ba))))
  clear c0
  have c0 := He.out.1.cell
  clear Ba Hd
  go_wp2_with fail
  refine (short_any A c Dia 3 0 _ He.out.1.C hc.out dia_short).mono ?_
  rintro e wf ⟨A9, c9, p9, rfl, hc9, hsp, C9, B9⟩
  obtain rfl := dia_path2 hsp
  have Hf := Aside0.mk (And.intro (He.out.1.step B9) (And.intro (Kd.C_below He.out.2.1 B9) (And.intro (Kd.C_below He.out.2.2.1 B9) (Kd.C_below He.out.2.2.2 B9))))
  clear c0
  have c0 := Hf.out.1.cell
  obtain ⟨l0, eL, s0⟩ := Kd.at_bool Hf.out.2.1 0 (by decide) (by decide)
  obtain ⟨l1, eL1, s1⟩ := Kd.at_bool Hf.out.2.1 1 (by decide) (by decide)
  obtain ⟨l2, eL2, s2⟩ := Kd.at_bool Hf.out.2.1 2 (by decide) (by decide)
  obtain ⟨l3, eL3, s3⟩ := Kd.at_bool Hf.out.2.1 3 (by decide) (by decide)
  subst eL
  injection eL1 with eL1
  injection eL2 with eL2
  injection eL3 with eL3
  subst eL1
  subst eL2
  subst eL3
  replace s0 : wf.cell? l0 = some (.bool false) := s0
  replace s1 : wf.cell? ⟨l0.block, l0.off + 1, none⟩ = some (.bool true) := s1
  replace s2 : wf.cell? ⟨l0.block, l0.off + 2, none⟩ = some (.bool false) := s2
  replace s3 : wf.cell? ⟨l0.block, l0.off + 3, none⟩ = some (.bool true) := s3
  obtain ⟨ap, Ap3, cp3, eP, p0, pl, pC⟩ := at_L1 Hf.out.2.2.1 3 (by decide) (by decide)
  subst eP
  replace p0 : wf.cell? ⟨ap.block, ap.off + 3, none⟩ = some (.slice Ap3 2 cp3) := p0
  replace pC : Kd.C (Kd.int .i64) wf Ap3 2 [1, 2] := pC
  replace pl : 2 ≤ cp3 := pl
  have pH := Aside0.mk (And.intro pl pC)
  clear B9 hc9 C9 He hsp pl pC
  go_wp2_with fail
  refine (same_lit Ap3 cp3 [1, 2] _ _ wf _ rfl pH.out.2 pH.out.1 rfl (by decide) rfl).mono ?_
  rintro e wg ⟨rfl, Ba⟩
  have Hg := Aside0.mk (And.intro (Hf.out.1.step Ba) (Kd.C_below Hf.out.2.2.2 Ba))
  clear c0
  have c0 := Hg.out.1.cell
  obtain ⟨ar, Ar2, cr2, eP, p0, pl, pC⟩ := at_L1 Hg.out.2 2 (by decide) (by decide)
  subst eP
  replace p0 : wg.cell? ⟨ar.block, ar.off + 2, none⟩ = some (.slice Ar2 1 cr2) := p0
  replace pC : Kd.C (Kd.int .i64) wg Ar2 1 [0] := pC
  replace pl : 1 ≤ cr2 := pl
  have pG := Aside0.mk (And.intro pl pC)
  clear Ba Hf pl pC pH
  go_wp2_with fail
  refine (same_lit Ar2 cr2 [0] _ _ wg _ rfl pG.out.2 pG.out.1 rfl (by decide) rfl).mono ?_
  rintro e wh ⟨rfl, Ba⟩
  have Hh := Aside0.mk (Hg.out.1.step Ba)
  clear c0
  have c0 := Hh.out.cell
  clear Ba Hg pG
  go_wp2_with fail
  refine (post_any A c Dia 4 _ Hh.out.C hc.out dia_short).mono ?_
  rintro e wi ⟨v9, rfl, R9, B9⟩
  rw [dia_post4] at R9
  obtain ⟨A9, c9, ev, hc9, C9⟩ := Kd.R_reads R9
  subst ev
  have Hi := Aside0.mk (Hh.out.step B9)
  clear c0 R9 B9 hc9 C9 Hh
  go_wp2
  go_ret
  exact ⟨rfl, Hi.out.b⟩
end Go.Proofs.Ytjkclhpibielfaa
