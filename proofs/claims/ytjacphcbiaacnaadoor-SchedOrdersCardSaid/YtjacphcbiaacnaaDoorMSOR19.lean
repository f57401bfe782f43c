import Derived.Deep.DeepCutAuto
import Derived.Test.YtjacphcbiaacnaaDoorMSOR18
section
/- SchedOrders. -/
set_option linter.unusedVariables false
set_option linter.unusedSimpArgs false
set_option linter.unusedSectionVars false
namespace Go.Proofs.YtjacphcbiaacnaaDoor
open Go.RowKit Go.Proofs.YtjacphcbiaacnaaDoorW.PrintWords Go.Proofs.YtjacphcbiaacnaaDoorW.PrintMore Go.Proofs.YtjacphcbiaacnaaDoorW.PrintLast Go.Proofs.YtjacphcbiaacnaaDoor.PDigraphTells Mem Sc
/-- The law's row 'at': n cells, made in w6. -/
structure AtO (n : Nat) (w6 wi : World) (Ag : Option Addr) (cap : Nat) (o : List Int) : Prop where
  b : Below w6.heap.size w6 wi
  R : Kd.R (Kd.int .i64) 3 wi 0 (fun k => w6.heap.size ≤ k) (.slice Ag n cap) o
  len : o.length = n
section
variable {n : Nat} {w6 wi wj : World} {Ag : Option Addr} {g cap : Nat} {o : List Int}
theorem AtO.step (h : AtO n w6 wi Ag cap o) (hb : Below wi.heap.size wi wj) : AtO n w6 wj Ag cap o := ⟨h.b.trans (hb.mono h.b.size), Kd.R_step h.R (fun k _ hlt => hb.block k hlt), h.len⟩
theorem AtO.form (h : AtO n w6 wi Ag cap o) (hn : 0 < n) : ∃ g, Ag = some ⟨g, 0, none⟩ := by
  obtain ⟨g, c, e, _⟩ := Kd.R_form h.R (by rw [h.len]; exact hn)
  injection e with e1 e2 e3
  exact ⟨g, e1⟩
theorem AtO.put (h : AtO n w6 wi (some ⟨g, 0, none⟩) cap o) (p : Nat) (v : Int) : AtO n w6 (wi.setCell ⟨g, p, none⟩ (.int .i64 v)) (some ⟨g, 0, none⟩) cap (o.set p v) := by
  have hk : Kp (fun k => w6.heap.size ≤ k) wi (wi.setCell ⟨g, p, none⟩ (.int .i64 v)) := (Kp.refl _ wi).setCell (p := ⟨g, p, none⟩) (.inl (h.R.1 g rfl)) _
  have := (Kd.R_putg h.R (p : Int) v).1
  rw [Int.toNat_natCast] at this
  exact ⟨h.b.trans (hk.belowB (fun k hk => hk) h.b.size), this, by rw [List.length_set]; exact h.len⟩
theorem AtO.cell (h : AtO n w6 wi (some ⟨g, 0, none⟩) cap o) (p : Nat) (hp : p < n) : wi.cell? ⟨g, p, none⟩ = some (.int .i64 (rd o (p : Int))) ∧ wi.frozen? ⟨g, p, none⟩ = false := by
  obtain ⟨h1, h2⟩ := Kd.R_celln 0 h.R (p : Int) (by omega) (by have := h.len; omega)
  rw [Int.toNat_natCast] at h1 h2
  exact ⟨h1, h2⟩
end
theorem tk_bd {W : Int} {Lat : List Int} {B : List S48} {T : List Int} {s : St} (hF : Fin (insS W Lat B) T s) (hB : B.length ≤ 60) {k : Nat} (hk : k < B.length) : ∃ c, s.t k ≤ c ∧ c ≤ 100000 := by
  obtain ⟨f, hf, hs⟩ := hF.ex
  obtain ⟨c, hc, hi⟩ := run_bd (S := insS W Lat B) (h := fun i => rd T (i : Int)) f 0 st0 (by omega) (inv0 _ 0 (by omega))
  rw [hs] at hi
  have hn : (insS W Lat B).n = B.length := rfl
  rw [hn] at hf
  exact ⟨c, hi.hi k hk, by omega⟩
theorem contains_any (A : Option Addr) (c : Nat) (l : List Int) (x : Int) (w : World) (hA : Kd.C (Kd.int .i64) w A l.length l) (hc : l.length ≤ c) (hl : l.length < 1000000000) (b : Bool) (hb : decide (x ∈ l) = b) :
    Calls Tryd.prog 19 #[.slice A l.length c, .int .i64 x] w fun e w' => e = .returned (.bool b) ∧ Below w.heap.size w w' := by
  subst hb
  obtain ⟨k, hk⟩ := (contains_f l x hl).get
  refine (slices_Contains_int_int.calls k A c l x _ w hA hc hk).mono ?_
  rintro e w' ⟨rfl, hd⟩
  obtain ⟨n, rfl⟩ := hd
  exact ⟨rfl, pw_below_drewN (Below.refl _ _) _⟩
section
variable {w w' : World} {W R : Int} {AL : Option Addr} {cL : Nat} {Lat : List Int} {AP : Option Addr} {cP : Nat} {P : List Int} {AI : Option Addr} {cI : Nat} {B : List S48} {A3 : Option Addr} {c3 : Nat} {t1 : List Int} {A4 : Option Addr} {c4 : Nat} {t2 : List Int} {A5 : Option Addr} {c5 : Nat} {t3 : List S98} {t0 t4 : Int}
set_option maxRecDepth 100000 in
set_option maxHeartbeats 8000000 in
theorem so_any (h : Bk w AL cL Lat AP cP P AI cI B A3 c3 t1 A4 c4 t2 A5 c5 t3) (hDN : DN w) :
    Calls Tryd.prog 4 #[.agg #[.int .i64 W, .int .i64 R, .slice AL Lat.length cL], .agg #[.slice AP P.length cP, .slice AI B.length cI, .int .i64 t0, .slice A3 t1.length c3, .slice A4 t2.length c4, .slice A5 t3.length c5, .int .i64 t4]] w fun e w' => e = .returned (.bool true) ∧ Below w.heap.size w w' := by
  obtain ⟨lb, hlb, hlg⟩ := large_any h t0 t4
  replace hlg := Aside0.mk hlg
  replace hlb := Aside0.mk hlb
  have h0 : 0 < w.heap.size := hDN.pos
  have hD := Aside0.mk (fun (W1 : World) (hb : Below w.heap.size w W1) => hDN.below hb h0)
  have hX := Aside0.mk h
  clear h h0 hDN
  go_enter Tryd.func4, Tryd.ntmps4
  go_wp2_with fail
  obtain ⟨w2, hw2⟩ : ∃ w2, (w.alloc (.cells #[.int .i64 W, .int .i64 R, .slice AL Lat.length cL] 24 (0, 0))).alloc (.cells #[.slice AP P.length cP, .slice AI B.length cI, .int .i64 t0, .slice A3 t1.length c3, .slice A4 t2.length c4, .slice A5 t3.length c5, .int .i64 t4] 31 (0, 0)) = w2 := ⟨_, rfl⟩
  obtain ⟨b0, hb0⟩ : ∃ b0, w.heap.size = b0 := ⟨_, rfl⟩
  have h2 := two_cells hw2 hb0
  rw [hw2, hb0]
  clear hw2 hb0
  obtain ⟨B2, hCl⟩ := h2
  replace hCl := Aside0.mk hCl
  replace B2 := Aside0.mk B2
  refine (hlg.out w2 B2.out).mono ?_
  rintro e w3 ⟨rfl, B3⟩
  have B3' := Aside0.mk (bl1 B2.out B3)
  replace hCl := Aside0.mk (fun (w' : World) (hb : Below w3.heap.size w3 w') => hCl.out w' (bl1 B3 hb))
  obtain ⟨a0, a1, a2, d0, d1, d2, d3, d4, d5, d6⟩ := hCl.out w3 (Below.refl _ _)
  clear B3 B2 hlg
  cases lb with
  | true =>
    clear hCl hlb a0 a1 d0 d1 d2 d3 d4 d5 d6
    go_wp2_with fail
    refine (awake_any _ (hD.out _ B3'.out)).mono ?_
    rintro e w4 ⟨rfl, B4⟩
    have hF := Aside0.mk (bl1 B3'.out B4)
    clear B4 B3' hD hX a2
    go_wp2
    go_ret
    exact ⟨rfl, hF.out⟩
  | false =>
    by_cases hl : 100 < Lat.length
    · have hl2 : decide ((100 : Int) < (Lat.length : Int)) = true := decide_eq_true (by omega)
      have hl3 : (100 : Int) < (Lat.length : Int) := by omega
      clear hCl hlb a0 a1 d0 d1 d2 d3 d4 d5 d6
      go_wp2_with fail
      refine (awake_any _ (hD.out _ B3'.out)).mono ?_
      rintro e w4 ⟨rfl, B4⟩
      have hF := Aside0.mk (bl1 B3'.out B4)
      clear B4 B3' hD hX a2 hl hl2
      go_wp2
      go_ret
      exact ⟨rfl, hF.out⟩
    · have hl2 : decide ((100 : Int) < (Lat.length : Int)) = false := decide_eq_false (by omega)
      have hl3 : ¬ (100 : Int) < (Lat.length : Int) := by omega
      have hsm := Aside0.mk (hlb.out rfl)
      have hLl : Aside0 (Lat.length < 1000000000) := ⟨by omega⟩
      obtain ⟨q, hq⟩ := (valid_f W R Lat hLl.out).get
      have hV := machine_ValidModel.calls q W R AL cL Lat _ w3 (hX.out.below B3'.out).rL hX.out.hL hq
      obtain ⟨vb, hvb⟩ : ∃ vb, validB W R Lat = vb := ⟨_, rfl⟩
      rw [hvb] at hV
      replace hV := Aside0.mk hV
      replace hvb := Aside0.mk hvb
      clear hq hlb hl
      go_wp2_with fail
      refine hV.out.mono ?_
      rintro e w4 ⟨rfl, B4⟩
      have B4' := Aside0.mk (bl1 B3'.out B4)
      have fc := hCl.out w4 B4
      replace hCl := Aside0.mk (fun (w' : World) (hb : Below w4.heap.size w4 w') => hCl.out w' (bl1 B4 hb))
      clear hV B4 a0 a1 a2 d0 d1 d2 d3 d4 d5 d6 hl2 hl3 B3'
      cases vb with
      | false =>
        clear hCl fc
        go_wp2_with fail
        refine (awake_any _ (hD.out _ B4'.out)).mono ?_
        rintro e w5 ⟨rfl, B5⟩
        have hF := Aside0.mk (bl1 B4'.out B5)
        clear B5 B4' hD hX
        go_wp2
        go_ret
        exact ⟨rfl, hF.out⟩
      | true =>
        obtain ⟨a0, a1, a2, d0, d1, d2, d3, d4, d5, d6⟩ := fc
        have hD4 := Aside0.mk (fun (W1 : World) (hb : Below w4.heap.size w4 W1) => hD.out W1 (bl1 B4'.out hb))
        have hX4 := Aside0.mk (hX.out.below B4'.out)
        clear hD hX
        go_wp2_with fail
        refine (block_any (t0 := t0) (t4 := t4) hX4.out hsm.out hLl.out (hD4.out _ (Below.refl _ _))).mono ?_
        rintro e w5 ⟨vo, vy, o, y, rfl, hIs, r1, r2, B5⟩
        rcases hIs with ⟨hvf, _⟩ | ⟨_, T, s, hF, rfl, rfl⟩
        · have := hvb.out; rw [hvf] at this; cases this
        obtain ⟨Ao, co, ev, ho, Co⟩ := Kd.R_reads r1
        subst ev
        obtain ⟨Ay, cy, ev, hy, Cy⟩ := Kd.R_reads r2
        subst ev
        have hAl := hF.along
        have hoL : (oL s).length = B.length := by rw [oL_len]; exact hAl.ol
        have hyL : s.y.length = B.length := hAl.yl
        rw [hoL] at ho Co
        rw [hyL] at hy Cy
        rw [hoL, hyL]
        have H5 := Aside0.mk (And.intro hF (And.intro hAl (And.intro Co (And.intro Cy B5))))
        have fc := hCl.out w5 B5
        clear hF hAl ho Co hy Cy B5 r1 r2 a0 a1 a2 d0 d1 d2 d3 d4 d5 d6 hoL hyL
        obtain ⟨a0, a1, a2, d0, d1, d2, d3, d4, d5, d6⟩ := fc
        go_wp2_with fail
        refine (deps_rd (hX4.out.below H5.out.2.2.2.2) hsm.out t0 t4).mono ?_
        rintro e w6 ⟨AD, cD, rfl, hCD, B6⟩
        rw [depL_len] at hCD ⊢
        have B6' := Aside0.mk (bl1 H5.out.2.2.2.2 B6)
        have H6 := Aside0.mk (And.intro (Kd.C_below H5.out.2.2.1 B6) (And.intro (Kd.C_below H5.out.2.2.2.1 B6) hCD))
        have fc := hCl.out w6 B6'.out
        clear hCD B6 a0 a1 a2 d0 d1 d2 d3 d4 d5 d6
        obtain ⟨a0, a1, a2, d0, d1, d2, d3, d4, d5, d6⟩ := fc
        have hl60 : B.length ≤ 60 := hsm.out.len
        go_wp2_with (at_make; refine Kd.R_make (Kd.int .i64) (w0 := w6) 0 3 (by rfl) (N := 58) (by rfl) 22 (.tmp 57) (.tmp 57) (by rfl) (B.length : Int) (by rfl) (by rfl) Tryd.underlying22 (.int .i64 0) 8 info3 rfl (by decide) (by decide) 0 (ok := fun k => w6.heap.size ≤ k) (okp := fun _ => False) rfl (fun _ h => h.elim) (Nat.le_refl _) (by omega) (by omega) ((Kp.refl (fun _ => False) w6).belowB (fun _ h => h.elim) (Nat.zero_le _)) (Nat.zero_le _) ?_; intro v7 w7 hRA hBA hgA hatA; rw [Int.toNat_natCast] at hRA; have hb7 : Below w6.heap.size w6 w7 := ((Kp.refl (fun _ => False) w6).grown hgA (fun k hk => by cases hk)).none_below; obtain ⟨Ag, cap, ev, hxx⟩ := Kd.R_reads hRA; rw [List.length_replicate] at ev; subst ev; have hI0 : Aside0 (AtO B.length w6 w7 Ag cap (fillL B.length 0)) := ⟨⟨hb7, by rw [fillL_zero]; exact hRA, by simp [fillL]⟩⟩; clear hRA hBA hgA hatA hb7 hxx)
        clear a0 a1 a2 d0 d1 d2 d3 d4 d5 d6
        go_loopg [61] B.length (fun q v wi => ∃ i : Nat, i + q = B.length ∧ v = .int .i64 (i : Int) ∧ Aside0 (AtO B.length w6 wi Ag cap (fillL B.length i)))
        case atStart => exact ⟨0, by omega, rfl, hI0⟩
        case round =>
          obtain ⟨i, hi, rfl, hJ⟩ := hrel
          clear hI0
          by_cases hlt : i < B.length
          · have hlti : (i : Int) < B.length := by omega
            obtain ⟨gk1, rfl⟩ : ∃ q, gk = q + 1 := ⟨gk - 1, by omega⟩
            have hi1 : i + 1 + gk1 = B.length := by omega
            have hgk1 : gk1 < gk1 + 1 := by omega
            obtain ⟨g, rfl⟩ := hJ.out.form (by omega)
            obtain ⟨s0, f0⟩ := hJ.out.cell i hlt
            have hput := hJ.out.put i (-1)
            rw [fillL_set hlt] at hput
            have hI := Aside0.mk hput
            clear hput hJ
            go_wp2
            go_roundg gk1
            case rel => exact ⟨i + 1, hi1, by go_num, hI⟩
            case measure => exact hgk1
          · have hie : i = B.length := by omega
            subst hie
            have hI1 := Aside0.mk (show AtO B.length w6 wr Ag cap (atL B.length s 0) by have := hJ.out; rw [fillL_end _ s] at this; exact this)
            clear hJ hlt
            go_wp2_with fail
            go_loopg [70] B.length (fun q v wi => ∃ j : Nat, j + q = B.length ∧ v = .int .i64 (j : Int) ∧ Aside0 (AtO B.length w6 wi Ag cap (atL B.length s j)))
            case atStart => exact ⟨0, by omega, rfl, hI1⟩
            case round =>
              obtain ⟨j, hj, rfl, hJ⟩ := hrel
              clear hI1
              by_cases hlt : j < B.length
              · have hlti : (j : Int) < B.length := by omega
                obtain ⟨gk1, rfl⟩ : ∃ q, gk = q + 1 := ⟨gk - 1, by omega⟩
                have hj1 : j + 1 + gk1 = B.length := by omega
                have hgk1 : gk1 < gk1 + 1 := by omega
                have hj0 : (0 : Int) ≤ (j : Int) := by omega
                have hAl := H5.out.2.1
                have hol : s.o.length = B.length := hAl.ol
                have hlo : j < s.o.length := by omega
                obtain ⟨hk1, hk2, hk3, hk4⟩ := hAl.at_ j hlo
                replace hk1 : s.o[j] < B.length := hk1
                obtain ⟨g, rfl⟩ := hJ.out.form (by omega)
                obtain ⟨s0, f0⟩ := hJ.out.cell s.o[j] hk1
                rw [atL_rd hk1, if_neg hk2] at s0
                have hset := atL_set (n := B.length) hlo
                obtain ⟨ao, eA, x1⟩ := Kd.at_int (Kd.C_below H6.out.1 hJ.out.b) (j : Int) hj0 hlti
                subst eA
                rw [Int.toNat_natCast, rd_get (oL s) j (by rw [oL_len]; exact hlo), oL_get s j hlo] at x1
                obtain ⟨ay, eA, x2⟩ := Kd.at_int (Kd.C_below H6.out.2.1 hJ.out.b) (j : Int) hj0 hlti
                subst eA
                rw [Int.toNat_natCast, hk3] at x2
                have hdp := hAl.dep j hlo
                have hmo := hAl.mono j
                have hga := hAl.gap j
                rw [hk3] at hmo hga
                obtain ⟨k, hk⟩ : ∃ k, s.o[j] = k := ⟨_, rfl⟩
                rw [hk] at x1 s0 f0 hset hk1 hk4 hdp x2 hmo hga
                obtain ⟨tk, htk⟩ : ∃ tk, s.t k = tk := ⟨_, rfl⟩
                rw [htk] at x2 hset hk4 hdp hmo hga
                have hdp' := Aside0.mk (And.intro hdp (And.intro hset (And.intro (fun h => hmo h hlo) (fun h => hga h hlo))))
                have htk' := Aside0.mk htk
                clear hdp hmo hga hset hAl hol hlo hk2 hk3 hk htk
                have hk0i : (0 : Int) ≤ (k : Int) := by omega
                have hk1i : (k : Int) < (B.length : Int) := by omega
                have q1 : decide ((k : Int) < 0) = false := decide_eq_false (by omega)
                have q2 : decide ((B.length : Int) ≤ (k : Int)) = false := decide_eq_false (by omega)
                have q3 : decide (tk < 0) = false := decide_eq_false (by omega)
                have p1 : ¬ (k : Int) < 0 := by omega
                have p2 : ¬ (B.length : Int) ≤ (k : Int) := by omega
                have p3 : ¬ tk < 0 := by omega
                go_upto_region 17 with (fail)
                have hWr := (validB_iff hvb.out).2.1
                obtain ⟨a0, a1, a2, d0, d1, d2, d3, d4, d5, d6⟩ := hCl.out wr (bl1 B6'.out hJ.out.b)
                go_cut [131] (fun c wx => c = .bool false ∧ ∃ m, wx = wr.drewN m)
                case first =>
                  by_cases hz : j = 0
                  · have q4 : decide ((0 : Int) < (j : Int)) = false := decide_eq_false (by omega)
                    have q5 : decide (W ≤ (j : Int)) = false := decide_eq_false (by omega)
                    have p4 : ¬ (0 : Int) < (j : Int) := by omega
                    have p5 : ¬ W ≤ (j : Int) := by omega
                    have q4n : decide (0 < j) = false := decide_eq_false (by omega)
                    have p4n : ¬ 0 < j := by omega
                    clear hdp' hJ hz
                    go_quiet (fail)
                    go_wp2
                    go_meet
                    exact ⟨rfl, _, rfl⟩
                  · have p4 : (0 : Int) < (j : Int) := by omega
                    have q4 : decide ((0 : Int) < (j : Int)) = true := decide_eq_true p4
                    have p4n : 0 < j := by omega
                    have q4n : decide (0 < j) = true := decide_eq_true p4n
                    clear hz
                    have hm1 := hdp'.out.2.2.1 (by omega)
                    obtain ⟨y1, hy1⟩ : ∃ y1, rd s.y ((j - 1 : Nat) : Int) = y1 := ⟨_, rfl⟩
                    obtain ⟨ay', eA, x3⟩ := Kd.at_int (Kd.C_below H6.out.2.1 hJ.out.b) ((j - 1 : Nat) : Int) (by omega) (by omega)
                    injection eA with eA
                    subst eA
                    rw [hy1] at hm1 x3
                    rw [Int.toNat_natCast] at x3
                    have p6 : ¬ tk < y1 := by omega
                    have q6 : decide (tk < y1) = false := decide_eq_false p6
                    have r6 : IntKind.i64.wrap ((j : Int) - 1) = ((j - 1 : Nat) : Int) := (IntKind.wrap_i64 _).trans (by omega)
                    have r7 : (0 : Int) ≤ ((j - 1 : Nat) : Int) := by omega
                    have r8 : ((j - 1 : Nat) : Int) < (B.length : Int) := by omega
                    clear hy1 hm1
                    by_cases hw : W ≤ (j : Int)
                    · have q5 : decide (W ≤ (j : Int)) = true := decide_eq_true hw
                      have hg1 := hdp'.out.2.2.2 (show (insS W Lat B).w ≤ j by show W.toNat ≤ j; omega)
                      obtain ⟨y2, hy2⟩ : ∃ y2, rd s.y ((j - W.toNat : Nat) : Int) = y2 := ⟨_, rfl⟩
                      obtain ⟨ay', eA, x4⟩ := Kd.at_int (Kd.C_below H6.out.2.1 hJ.out.b) ((j - W.toNat : Nat) : Int) (by omega) (by omega)
                      injection eA with eA
                      subst eA
                      have hg1 : rd s.y ((j - W.toNat : Nat) : Int) < tk := hg1
                      rw [hy2] at hg1 x4
                      rw [Int.toNat_natCast] at x4
                      have p9 : ¬ tk = y2 := by omega
                      have q9 : (tk == y2) = false := by simpa using p9
                      have r9 : IntKind.i64.wrap ((j : Int) - W) = ((j - W.toNat : Nat) : Int) := (IntKind.wrap_i64 _).trans (by omega)
                      obtain ⟨jm, hjm⟩ : ∃ jm, j - W.toNat = jm := ⟨_, rfl⟩
                      have r10 : (0 : Int) ≤ (jm : Int) := by omega
                      have r11 : (jm : Int) < (B.length : Int) := by omega
                      rw [hjm] at x4 r9
                      clear hy2 hg1 hdp' hJ hjm
                      go_quiet (fail)
                      go_wp2
                      go_meet
                      exact ⟨rfl, _, rfl⟩
                    · have q5 : decide (W ≤ (j : Int)) = false := decide_eq_false hw
                      clear hdp' hJ
                      go_quiet (fail)
                      go_wp2
                      go_meet
                      exact ⟨rfl, _, rfl⟩
                case rest =>
                  obtain ⟨rfl, m, rfl⟩ := hcut
                  clear q1 q2 q3 p1 p2 p3 a0 a1 a2 d0 d1 d2 d3 d4 d5 d6
                  have hJa := Aside0.mk (hJ.out.step (pw_below_drewN (Below.refl wr.heap.size wr) m))
                  obtain ⟨wa, hwa⟩ : ∃ wa, wr.drewN m = wa := ⟨_, rfl⟩
                  rw [hwa] at hJa ⊢
                  replace x2 : wa.cell? (ay.add j) = some (.int .i64 tk) := by rw [← hwa]; exact x2
                  replace s0 : wa.cell? ⟨g, k, none⟩ = some (.int .i64 (-1)) := by rw [← hwa]; exact s0
                  replace f0 : wa.frozen? ⟨g, k, none⟩ = false := by rw [← hwa]; exact f0
                  clear hwa hJ x1
                  have hput := hJa.out.put k tk
                  rw [hdp'.out.2.1] at hput
                  replace hput := Aside0.mk hput
                  go_upto_region 20 with (fail)
                  obtain ⟨wb, hwb⟩ : ∃ wb, wa.setCell ⟨g, k, none⟩ (.int .i64 tk) = wb := ⟨_, rfl⟩
                  rw [hwb] at hput ⊢
                  clear hwb hJa s0 f0 x2
                  obtain ⟨ad, Ar, cr, eA, z0, zl, zC⟩ := at_L1 (Kd.C_below H6.out.2.2 hput.out.b) (k : Int) hk0i hk1i
                  subst eA
                  rw [rdL_dep hk1] at z0 zl zC
                  rw [Int.toNat_natCast] at z0
                  have hrl := depP_len B k k
                  have hmem : ∀ y ∈ depP B k k, ∃ i : Nat, y = (i : Int) ∧ i < k ∧ (insS W Lat B).D k i = true := fun y hy => by
                    obtain ⟨i, h1, h2, h3⟩ := mem_depP.1 hy
                    exact ⟨i, h1, h2, h3⟩
                  obtain ⟨row, hrow⟩ : ∃ row, depP B k k = row := ⟨_, rfl⟩
                  rw [hrow] at z0 zl zC hrl hmem
                  have hRow := Aside0.mk (And.intro hmem (And.intro zl zC))
                  have hI3 : Aside0 (AtO B.length w6 wb (some ⟨g, 0, none⟩) cap (atL B.length s (j + 1)) ∧ Below wb.heap.size wb wb) := ⟨hput.out, Below.refl _ _⟩
                  clear hmem hrow zl zC
                  go_wp2_with fail
                  clear z0
                  go_loopg [144] row.length (fun q v wi => ∃ e : Nat, e + q = row.length ∧ v = .int .i64 (e : Int) ∧ Aside0 (AtO B.length w6 wi (some ⟨g, 0, none⟩) cap (atL B.length s (j + 1)) ∧ Below wb.heap.size wb wi))
                  case atStart => exact ⟨0, by omega, rfl, hI3⟩
                  case round =>
                    obtain ⟨e, he, rfl, hG⟩ := hrel
                    clear hI3
                    by_cases hle : e < row.length
                    · have hlei : (e : Int) < row.length := by omega
                      obtain ⟨gk2, rfl⟩ : ∃ q, gk = q + 1 := ⟨gk - 1, by omega⟩
                      have he1 : e + 1 + gk2 = row.length := by omega
                      have hgk2 : gk2 < gk2 + 1 := by omega
                      have he0 : (0 : Int) ≤ (e : Int) := by omega
                      obtain ⟨ar, eA, z1⟩ := Kd.at_int (Kd.C_below hRow.out.2.2 hG.out.2) (e : Int) he0 hlei
                      subst eA
                      rw [Int.toNat_natCast, rd_get row e hle] at z1
                      obtain ⟨i, hi1, hi2, hi3⟩ := hRow.out.1 row[e] (List.getElem_mem hle)
                      rw [hi1] at z1
                      obtain ⟨hi4, hi5, hi6⟩ := hdp'.out.1 i hi2 hi3
                      have hib : i < B.length := by omega
                      obtain ⟨v0, _⟩ := hG.out.1.cell i hib
                      rw [atL_rd hib, if_pos ((List.take_subset_take_left s.o (Nat.le_succ j)) hi4)] at v0
                      obtain ⟨ti, hti⟩ : ∃ ti, s.t i = ti := ⟨_, rfl⟩
                      rw [hti] at v0 hi5 hi6
                      obtain ⟨vk, _⟩ := hG.out.1.cell k hk1
                      have hkk : rd (atL B.length s (j + 1)) (k : Int) = tk := by
                        rw [← hdp'.out.2.1, ← Int.toNat_natCast k, rd_set _ _ _ _ hk0i (by rw [atL_len]; exact hk1i) (by omega), if_pos (by omega)]
                      rw [hkk] at vk
                      have hwr := Aside0.mk (bl1 hput.out.b hG.out.2)
                      have hB4 := Aside0.mk (bl1 B6'.out hwr.out)
                      obtain ⟨a0, a1, a2, _, d1, _, _, _, _, _⟩ := hCl.out wr hB4.out
                      obtain ⟨aI, A8, c8, eA, zi, _, zd, _, _, _, _, _, _, _⟩ := at_T48 (hX4.out.below hB4.out).rI (i : Int) (by omega) (by omega)
                      subst eA
                      obtain ⟨aI', Ag1, cg1, eA, _, _, _, zk, _, _, _, _, lk, Ck⟩ := at_T48 (hX4.out.below hB4.out).rI (k : Int) hk0i hk1i
                      injection eA with eA
                      subst eA
                      rw [Int.toNat_natCast] at zi zd zk
                      have hka := hsm.out.arg k hk1
                      have hdl : usB (rd_T48 B (k : Int)) (rd_T48 B (i : Int)) = true → ti + latI Lat (rd_T48 B (i : Int)).f0 ≤ tk := fun h => by
                        have h9 : (insS W Lat B).dl i k = latI Lat (rd_T48 B (i : Int)).f0 := if_pos h
                        rw [h9] at hi6
                        exact hi6
                      have hlt9 := (insS_ok (B := B) hvb.out hl60).lt1 i
                      replace hlt9 : 1 ≤ latI Lat (rd_T48 B (i : Int)).f0 ∧ latI Lat (rd_T48 B (i : Int)).f0 ≤ 100 := hlt9
                      obtain ⟨c9, hc9, hInv9⟩ : ∃ c9, s.t k ≤ c9 ∧ c9 ≤ 100000 := tk_bd H5.out.1 hl60 hk1
                      rw [htk'.out] at hc9
                      obtain ⟨xi, hxi⟩ : ∃ x, rd_T48 B (i : Int) = x := ⟨_, rfl⟩
                      obtain ⟨xk, hxk⟩ : ∃ x, rd_T48 B (k : Int) = x := ⟨_, rfl⟩
                      rw [hxi] at zi zd hdl hlt9
                      rw [hxk] at zk hdl lk Ck hka
                      have hbig : 0 ≤ ti ∧ ti ≤ 100000 := by
                        obtain ⟨c8, hc8, h8⟩ : ∃ c8, s.t i ≤ c8 ∧ c8 ≤ 100000 := tk_bd H5.out.1 hl60 hib
                        rw [hti] at hc8
                        exact ⟨hi5, by omega⟩
                      have hL := Aside0.mk (fun (W1 : World) (e1 : Below wr.heap.size wr W1) => machine_Latency.calls W R AL cL Lat xi.f0 _ W1 (Kd.C_below (hX4.out.below hB4.out).rL e1) hX4.out.hL (lat_f W R Lat xi.f0))
                      obtain ⟨li, hli⟩ : ∃ li, latI Lat xi.f0 = li := ⟨_, rfl⟩
                      rw [hli] at hL hdl hlt9
                      have hsum : IntKind.i64.wrap (ti + li) = ti + li := (IntKind.wrap_i64 _).trans (by omega)
                      have hArg := Aside0.mk (And.intro lk (And.intro Ck (show xk.f3.length < 1000000000 by omega)))
                      have hdl' := Aside0.mk hdl
                      have hsum' := Aside0.mk hsum
                      have hti0 := Aside0.mk hi5
                      clear hdl hsum lk Ck hka hli hxi hxk hti hi5 hi6 hi1 hi3 hi4 hlt9 hbig hc9 hInv9 hkk
                      have p1 : ¬ (i : Int) < 0 := by omega
                      have p2 : ¬ (k : Int) ≤ (i : Int) := by omega
                      have p2n : ¬ k ≤ i := by omega
                      have p3 : ¬ ti < 0 := by have := hti0.out; omega
                      have q1 : decide ((i : Int) < 0) = false := decide_eq_false p1
                      have q2 : decide ((k : Int) ≤ (i : Int)) = false := decide_eq_false p2
                      have q2n : decide (k ≤ i) = false := decide_eq_false p2n
                      have q3 : decide (ti < 0) = false := decide_eq_false p3
                      have hi0i : (0 : Int) ≤ (i : Int) := by omega
                      have hi1i : (i : Int) < (B.length : Int) := by omega
                      go_upto_region 26 with (fail)
                      clear p1 p2 p2n p3 q1 q2 q2n q3 z1 zd
                      go_cut [199] (fun c wx => c = .bool false ∧ Below wr.heap.size wr wx)
                      case first =>
                        by_cases hd0 : 0 ≤ xi.f2
                        · have q4 : decide (0 ≤ xi.f2) = true := decide_eq_true hd0
                          by_cases hin : xi.f2 ∈ xk.f3
                          · have hcmp : ¬ tk < ti + li := by have := hdl'.out (by unfold usB; rw [decide_eq_true hd0, decide_eq_true hin]; rfl); omega
                            have hcmpb : decide (tk < ti + li) = false := decide_eq_false hcmp
                            have hcmp' := Aside0.mk (And.intro hcmp hcmpb)
                            have hC9 := Aside0.mk (fun (W1 : World) (e1 : Below wr.heap.size wr W1) => contains_any Ag1 cg1 xk.f3 xi.f2 W1 (Kd.C_below hArg.out.2.1 e1) hArg.out.1 hArg.out.2.2 true (decide_eq_true hin))
                            clear hin hdp' hdl' hG hRow hput hwr hB4 hcmp hcmpb
                            have hsum := hsum'.out
                            clear hsum'
                            go_region_held3 (fun w' => w'.cell? ⟨b0, 0, none⟩ = some (.int .i64 W) ∧ w'.cell? ⟨b0, 1, none⟩ = some (.int .i64 R) ∧ w'.cell? ⟨b0, 2, none⟩ = some (.slice AL Lat.length cL) ∧ w'.cell? ⟨b0 + 1, 1, none⟩ = some (.slice (some aI) B.length cI) ∧ w'.cell? ⟨(aI.add (k * 8)).block, (aI.add (k * 8)).off + 3, none⟩ = some (.slice Ag1 xk.f3.length cg1) ∧ w'.cell? (aI.add (i * 8)) = some (.int .i64 xi.f0) ∧ w'.cell? ⟨g, k, none⟩ = some (.int .i64 tk) ∧ w'.cell? ⟨g, i, none⟩ = some (.int .i64 ti)) (first | assumption | exact ⟨a0, a1, a2, d1, zk, zi, vk, v0⟩ | go_keep) (first
                              | ((go_at_call 19; with_reducible refine (hC9.out _ ?_).mono ?_)
                                 · first | exact Below.refl _ _ | exact below_drew (Below.refl _ _) | exact pw_below_drewN (Below.refl _ _) _
                                 rintro e' wc ⟨rfl, Bx0⟩
                                 have Bx : Below wr.heap.size wr wc := by first | exact Bx0 | exact (below_drew (Below.refl _ wr)).trans Bx0 | exact (pw_below_drewN (Below.refl _ wr) _).trans Bx0
                                 clear Bx0
                                 have f1 : wc.cell? ⟨b0, 0, none⟩ = some (.int .i64 W) ∧ wc.cell? ⟨b0, 1, none⟩ = some (.int .i64 R) ∧ wc.cell? ⟨b0, 2, none⟩ = some (.slice AL Lat.length cL) ∧ wc.cell? ⟨b0 + 1, 1, none⟩ = some (.slice (some aI) B.length cI) ∧ wc.cell? ⟨(aI.add (k * 8)).block, (aI.add (k * 8)).off + 3, none⟩ = some (.slice Ag1 xk.f3.length cg1) ∧ wc.cell? (aI.add (i * 8)) = some (.int .i64 xi.f0) ∧ wc.cell? ⟨g, k, none⟩ = some (.int .i64 tk) ∧ wc.cell? ⟨g, i, none⟩ = some (.int .i64 ti) := ⟨(Below.cell Bx (World.block_lt_of_cell? _ _ a0)).trans a0, (Below.cell Bx (World.block_lt_of_cell? _ _ a1)).trans a1, (Below.cell Bx (World.block_lt_of_cell? _ _ a2)).trans a2, (Below.cell Bx (World.block_lt_of_cell? _ _ d1)).trans d1, (Below.cell Bx (World.block_lt_of_cell? _ _ zk)).trans zk, (Below.cell Bx (World.block_lt_of_cell? _ _ zi)).trans zi, (Below.cell Bx (World.block_lt_of_cell? _ _ vk)).trans vk, (Below.cell Bx (World.block_lt_of_cell? _ _ v0)).trans v0⟩
                                 have Bc := Aside0.mk Bx
                                 clear Bx)
                              | ((go_at_call 20; with_reducible refine (hL.out _ Bc.out).mono ?_)
                                 rintro e' wd ⟨rfl, Bx0⟩
                                 have Bx := bl1 Bc.out Bx0
                                 clear Bx0
                                 have f2 : wd.cell? ⟨b0, 0, none⟩ = some (.int .i64 W) ∧ wd.cell? ⟨b0, 1, none⟩ = some (.int .i64 R) ∧ wd.cell? ⟨b0, 2, none⟩ = some (.slice AL Lat.length cL) ∧ wd.cell? ⟨b0 + 1, 1, none⟩ = some (.slice (some aI) B.length cI) ∧ wd.cell? ⟨(aI.add (k * 8)).block, (aI.add (k * 8)).off + 3, none⟩ = some (.slice Ag1 xk.f3.length cg1) ∧ wd.cell? (aI.add (i * 8)) = some (.int .i64 xi.f0) ∧ wd.cell? ⟨g, k, none⟩ = some (.int .i64 tk) ∧ wd.cell? ⟨g, i, none⟩ = some (.int .i64 ti) := ⟨(Below.cell Bx (World.block_lt_of_cell? _ _ a0)).trans a0, (Below.cell Bx (World.block_lt_of_cell? _ _ a1)).trans a1, (Below.cell Bx (World.block_lt_of_cell? _ _ a2)).trans a2, (Below.cell Bx (World.block_lt_of_cell? _ _ d1)).trans d1, (Below.cell Bx (World.block_lt_of_cell? _ _ zk)).trans zk, (Below.cell Bx (World.block_lt_of_cell? _ _ zi)).trans zi, (Below.cell Bx (World.block_lt_of_cell? _ _ vk)).trans vk, (Below.cell Bx (World.block_lt_of_cell? _ _ v0)).trans v0⟩
                                 have Bd := Aside0.mk Bx
                                 clear Bx)
                              | fail)
                            have hcmp := hcmp'.out.1
                            have hcmpb := hcmp'.out.2
                            clear f1 f2
                            go_wp2
                            go_meet
                            exact ⟨congrArg Value.bool hcmpb, Bd.out⟩
                          · have hC9 := Aside0.mk (fun (W1 : World) (e1 : Below wr.heap.size wr W1) => contains_any Ag1 cg1 xk.f3 xi.f2 W1 (Kd.C_below hArg.out.2.1 e1) hArg.out.1 hArg.out.2.2 false (decide_eq_false hin))
                            clear hin hdp' hdl' hG hRow hput hwr hB4
                            refine Held.begin_ (S := (fun w' => w'.cell? ⟨b0, 0, none⟩ = some (.int .i64 W) ∧ w'.cell? ⟨b0, 1, none⟩ = some (.int .i64 R) ∧ w'.cell? ⟨b0, 2, none⟩ = some (.slice AL Lat.length cL) ∧ w'.cell? ⟨b0 + 1, 1, none⟩ = some (.slice (some aI) B.length cI) ∧ w'.cell? ⟨(aI.add (k * 8)).block, (aI.add (k * 8)).off + 3, none⟩ = some (.slice Ag1 xk.f3.length cg1) ∧ w'.cell? (aI.add (i * 8)) = some (.int .i64 xi.f0) ∧ w'.cell? ⟨g, k, none⟩ = some (.int .i64 tk) ∧ w'.cell? ⟨g, i, none⟩ = some (.int .i64 ti))) 31 (by kernel_rfl) (by kernel_rfl) ?_ (fun hHeld => ?_)
                            · exact ⟨a0, a1, a2, d1, zk, zi, vk, v0⟩
                            simp only [List.length_cons, List.length_nil, Nat.reduceAdd, List.replicate, Array.replicate]
                            refine Held.take_ (v := ?vv3117100) 0 rfl rfl (by kernel_rfl) (by kernel_rfl) (fun _ _ _ h => h) (by assumption) (Or.inl ⟨by rfl, ?hy3117100⟩) ?_
                            case hy3117100 => intro w hSw; (try dsimp only at hSw); (go_simp <;> with_reducible rfl)
                            try simp only [Act.put, List.setIfInBounds_toArray, List.set_cons_zero, List.set_cons_succ]
                            refine Held.take_ (v := ?vv3117101) 1 rfl rfl (by kernel_rfl) (by kernel_rfl) (fun _ _ _ h => h) (by assumption) (Or.inl ⟨by rfl, ?hy3117101⟩) ?_
                            case hy3117101 => intro w hSw; (try dsimp only at hSw); (go_simp <;> with_reducible rfl)
                            try simp only [Act.put, List.setIfInBounds_toArray, List.set_cons_zero, List.set_cons_succ]
                            refine Held.take_ (v := ?vv3117102) 2 rfl rfl (by kernel_rfl) (by kernel_rfl) (fun _ _ _ h => h) (by assumption) (Or.inl ⟨by rfl, ?hy3117102⟩) ?_
                            case hy3117102 => intro w hSw; (try dsimp only at hSw); (go_simp <;> with_reducible rfl)
                            try simp only [Act.put, List.setIfInBounds_toArray, List.set_cons_zero, List.set_cons_succ]
                            refine Held.take_ (v := ?vv3117103) 3 rfl rfl (by kernel_rfl) (by kernel_rfl) (fun _ _ _ h => h) (by assumption) (Or.inl ⟨by rfl, ?hy3117103⟩) ?_
                            case hy3117103 => intro w hSw; (try dsimp only at hSw); (go_simp <;> with_reducible rfl)
                            try simp only [Act.put, List.setIfInBounds_toArray, List.set_cons_zero, List.set_cons_succ]
                            refine Held.take_ (v := ?vv3117104) 4 rfl rfl (by kernel_rfl) (by kernel_rfl) (fun _ _ _ h => h) (by assumption) (Or.inl ⟨by rfl, ?hy3117104⟩) ?_
                            case hy3117104 => intro w hSw; (try dsimp only at hSw); (go_simp <;> with_reducible rfl)
                            try simp only [Act.put, List.setIfInBounds_toArray, List.set_cons_zero, List.set_cons_succ]
                            refine Held.take_ (v := ?vv3117105) 5 rfl rfl (by kernel_rfl) (by kernel_rfl) (fun _ _ _ h => h) (by assumption) (Or.inl ⟨by rfl, ?hy3117105⟩) ?_
                            case hy3117105 => intro w hSw; (try dsimp only at hSw); (go_simp <;> with_reducible rfl)
                            try simp only [Act.put, List.setIfInBounds_toArray, List.set_cons_zero, List.set_cons_succ]
                            refine Held.take_ (v := ?vv3117106) 6 rfl rfl (by kernel_rfl) (by kernel_rfl) (fun _ _ _ h => h) (by assumption) (Or.inl ⟨by rfl, ?hy3117106⟩) ?_
                            case hy3117106 => intro w hSw; (try dsimp only at hSw); (go_simp <;> with_reducible rfl)
                            try simp only [Act.put, List.setIfInBounds_toArray, List.set_cons_zero, List.set_cons_succ]
                            refine Held.take_ (v := ?vv3117107) 7 rfl rfl (by kernel_rfl) (by kernel_rfl) (fun _ _ _ h => h) (by assumption) (Or.inl ⟨by rfl, ?hy3117107⟩) ?_
                            case hy3117107 => intro w hSw; (try dsimp only at hSw); (go_simp <;> with_reducible rfl)
                            try simp only [Act.put, List.setIfInBounds_toArray, List.set_cons_zero, List.set_cons_succ]
                            refine Held.take_ (v := ?vv3117108) 8 rfl rfl (by kernel_rfl) (by kernel_rfl) (fun _ _ _ h => h) (by assumption) (Or.inl ⟨by rfl, ?hy3117108⟩) ?_
                            case hy3117108 => intro w hSw; (try dsimp only at hSw); (go_simp <;> with_reducible rfl)
                            try simp only [Act.put, List.setIfInBounds_toArray, List.set_cons_zero, List.set_cons_succ]
                            refine Held.take_ (v := ?vv3117109) 9 rfl rfl (by kernel_rfl) (by kernel_rfl) (fun _ _ _ h => h) (by assumption) (Or.inl ⟨by rfl, ?hy3117109⟩) ?_
                            case hy3117109 => intro w hSw; (try dsimp only at hSw); (go_simp <;> with_reducible rfl)
                            try simp only [Act.put, List.setIfInBounds_toArray, List.set_cons_zero, List.set_cons_succ]
                            refine Held.step_ 10 rfl rfl (by kernel_rfl) (fun K hK => ?_)
                            go_simp
                            go_at_call 19
                            with_reducible refine (hC9.out _ (below_drew (Below.refl _ _))).mono ?_
                            rintro e' wc ⟨rfl, Bx0⟩
                            have Bx : Below wr.heap.size wr wc := (below_drew (Below.refl _ wr)).trans Bx0
                            clear Bx0
                            have f1 : wc.cell? ⟨b0, 0, none⟩ = some (.int .i64 W) ∧ wc.cell? ⟨b0, 1, none⟩ = some (.int .i64 R) ∧ wc.cell? ⟨b0, 2, none⟩ = some (.slice AL Lat.length cL) ∧ wc.cell? ⟨b0 + 1, 1, none⟩ = some (.slice (some aI) B.length cI) ∧ wc.cell? ⟨(aI.add (k * 8)).block, (aI.add (k * 8)).off + 3, none⟩ = some (.slice Ag1 xk.f3.length cg1) ∧ wc.cell? (aI.add (i * 8)) = some (.int .i64 xi.f0) ∧ wc.cell? ⟨g, k, none⟩ = some (.int .i64 tk) ∧ wc.cell? ⟨g, i, none⟩ = some (.int .i64 ti) := ⟨(Below.cell Bx (World.block_lt_of_cell? _ _ a0)).trans a0, (Below.cell Bx (World.block_lt_of_cell? _ _ a1)).trans a1, (Below.cell Bx (World.block_lt_of_cell? _ _ a2)).trans a2, (Below.cell Bx (World.block_lt_of_cell? _ _ d1)).trans d1, (Below.cell Bx (World.block_lt_of_cell? _ _ zk)).trans zk, (Below.cell Bx (World.block_lt_of_cell? _ _ zi)).trans zi, (Below.cell Bx (World.block_lt_of_cell? _ _ vk)).trans vk, (Below.cell Bx (World.block_lt_of_cell? _ _ v0)).trans v0⟩
                            have Bc := Aside0.mk Bx
                            clear Bx
                            go_wp2_with fail
                            refine hK.out _ _ f1 (fun hHeld2 => ?_)
                            clear hK K
                            try simp only [Act.put, List.setIfInBounds_toArray, List.set_cons_zero, List.set_cons_succ]
                            refine Held.take_ (v := ?vv3306111) 11 rfl rfl (by kernel_rfl) (by kernel_rfl) (fun _ _ _ h => h) (by assumption) (Or.inl ⟨by rfl, ?hy3306111⟩) ?_
                            case hy3306111 => intro w hSw; (try dsimp only at hSw); (go_simp <;> with_reducible rfl)
                            try simp only [Act.put, List.setIfInBounds_toArray, List.set_cons_zero, List.set_cons_succ]
                            refine Held.take_ (v := ?vv3306112) 12 rfl rfl (by kernel_rfl) (by kernel_rfl) (fun _ _ _ h => h) (by assumption) (Or.inl ⟨by rfl, ?hy3306112⟩) ?_
                            case hy3306112 => intro w hSw; (try dsimp only at hSw); (go_simp <;> with_reducible rfl)
                            try simp only [Act.put, List.setIfInBounds_toArray, List.set_cons_zero, List.set_cons_succ]
                            refine Held.take_ (v := undef) 13 rfl rfl (by kernel_rfl) (by kernel_rfl) (fun _ _ _ h => h) (by assumption) (Or.inr ⟨by rfl, rfl⟩) ?_
                            try simp only [Act.put, List.setIfInBounds_toArray, List.set_cons_zero, List.set_cons_succ]
                            refine Held.take_ (v := undef) 14 rfl rfl (by kernel_rfl) (by kernel_rfl) (fun _ _ _ h => h) (by assumption) (Or.inr ⟨by rfl, rfl⟩) ?_
                            try simp only [Act.put, List.setIfInBounds_toArray, List.set_cons_zero, List.set_cons_succ]
                            refine Held.take_ (v := undef) 15 rfl rfl (by kernel_rfl) (by kernel_rfl) (fun _ _ _ h => h) (by assumption) (Or.inr ⟨by rfl, rfl⟩) ?_
                            try simp only [Act.put, List.setIfInBounds_toArray, List.set_cons_zero, List.set_cons_succ]
                            refine Held.take_ (v := undef) 16 rfl rfl (by kernel_rfl) (by kernel_rfl) (fun _ _ _ h => h) (by assumption) (Or.inr ⟨by rfl, rfl⟩) ?_
                            try simp only [Act.put, List.setIfInBounds_toArray, List.set_cons_zero, List.set_cons_succ]
                            refine Held.take_ (v := undef) 17 rfl rfl (by kernel_rfl) (by kernel_rfl) (fun _ _ _ h => h) (by assumption) (Or.inr ⟨by rfl, rfl⟩) ?_
                            try simp only [Act.put, List.setIfInBounds_toArray, List.set_cons_zero, List.set_cons_succ]
                            refine Held.take_ (v := undef) 18 rfl rfl (by kernel_rfl) (by kernel_rfl) (fun _ _ _ h => h) (by assumption) (Or.inr ⟨by rfl, rfl⟩) ?_
                            try simp only [Act.put, List.setIfInBounds_toArray, List.set_cons_zero, List.set_cons_succ]
                            refine Held.take_ (v := undef) 19 rfl rfl (by kernel_rfl) (by kernel_rfl) (fun _ _ _ h => h) (by assumption) (Or.inr ⟨by rfl, rfl⟩) ?_
                            try simp only [Act.put, List.setIfInBounds_toArray, List.set_cons_zero, List.set_cons_succ]
                            refine Held.take_ (v := undef) 20 rfl rfl (by kernel_rfl) (by kernel_rfl) (fun _ _ _ h => h) (by assumption) (Or.inr ⟨by rfl, rfl⟩) ?_
                            try simp only [Act.put, List.setIfInBounds_toArray, List.set_cons_zero, List.set_cons_succ]
                            refine Held.take_ (v := undef) 21 rfl rfl (by kernel_rfl) (by kernel_rfl) (fun _ _ _ h => h) (by assumption) (Or.inr ⟨by rfl, rfl⟩) ?_
                            try simp only [Act.put, List.setIfInBounds_toArray, List.set_cons_zero, List.set_cons_succ]
                            refine Held.take_ (v := undef) 22 rfl rfl (by kernel_rfl) (by kernel_rfl) (fun _ _ _ h => h) (by assumption) (Or.inr ⟨by rfl, rfl⟩) ?_
                            try simp only [Act.put, List.setIfInBounds_toArray, List.set_cons_zero, List.set_cons_succ]
                            refine Held.take_ (v := undef) 23 rfl rfl (by kernel_rfl) (by kernel_rfl) (fun _ _ _ h => h) (by assumption) (Or.inr ⟨by rfl, rfl⟩) ?_
                            try simp only [Act.put, List.setIfInBounds_toArray, List.set_cons_zero, List.set_cons_succ]
                            refine Held.take_ (v := undef) 24 rfl rfl (by kernel_rfl) (by kernel_rfl) (fun _ _ _ h => h) (by assumption) (Or.inr ⟨by rfl, rfl⟩) ?_
                            try simp only [Act.put, List.setIfInBounds_toArray, List.set_cons_zero, List.set_cons_succ]
                            refine Held.take_ (v := undef) 25 rfl rfl (by kernel_rfl) (by kernel_rfl) (fun _ _ _ h => h) (by assumption) (Or.inr ⟨by rfl, rfl⟩) ?_
                            try simp only [Act.put, List.setIfInBounds_toArray, List.set_cons_zero, List.set_cons_succ]
                            refine Held.take_ (v := undef) 26 rfl rfl (by kernel_rfl) (by kernel_rfl) (fun _ _ _ h => h) (by assumption) (Or.inr ⟨by rfl, rfl⟩) ?_
                            try simp only [Act.put, List.setIfInBounds_toArray, List.set_cons_zero, List.set_cons_succ]
                            refine Held.take_ (v := undef) 27 rfl rfl (by kernel_rfl) (by kernel_rfl) (fun _ _ _ h => h) (by assumption) (Or.inr ⟨by rfl, rfl⟩) ?_
                            try simp only [Act.put, List.setIfInBounds_toArray, List.set_cons_zero, List.set_cons_succ]
                            refine Held.take_ (v := undef) 28 rfl rfl (by kernel_rfl) (by kernel_rfl) (fun _ _ _ h => h) (by assumption) (Or.inr ⟨by rfl, rfl⟩) ?_
                            try simp only [Act.put, List.setIfInBounds_toArray, List.set_cons_zero, List.set_cons_succ]
                            refine Held.take_ (v := undef) 29 rfl rfl (by kernel_rfl) (by kernel_rfl) (fun _ _ _ h => h) (by assumption) (Or.inr ⟨by rfl, rfl⟩) ?_
                            try simp only [Act.put, List.setIfInBounds_toArray, List.set_cons_zero, List.set_cons_succ]
                            refine Held.take_ (v := undef) 30 rfl rfl (by kernel_rfl) (by kernel_rfl) (fun _ _ _ h => h) (by assumption) (Or.inr ⟨by rfl, rfl⟩) ?_
                            try simp only [Act.put, List.setIfInBounds_toArray, List.set_cons_zero, List.set_cons_succ]
                            refine Held.rest_ (by kernel_rfl) ?_
                            simp only [List.drop_succ_cons, List.drop_zero]
                            clear f1 hHeld hHeld2
                            go_wp2
                            go_meet
                            exact ⟨rfl, Bc.out⟩
                        · have q4 : decide (0 ≤ xi.f2) = false := decide_eq_false hd0
                          clear hdp' hdl' hG hRow hput hwr hB4
                          go_quiet (fail)
                          go_wp2
                          go_meet
                          exact ⟨rfl, pw_below_drewN (Below.refl _ _) _⟩
                      case rest =>
                        obtain ⟨rfl, hbx⟩ := hcut
                        have hI4 : Aside0 (AtO B.length w6 wc (some ⟨g, 0, none⟩) cap (atL B.length s (j + 1)) ∧ Below wb.heap.size wb wc) := ⟨hG.out.1.step hbx, bl1 hG.out.2 hbx⟩
                        clear hbx hG hdp' hdl' hRow hput hwr hB4 a0 a1 a2 d1 zk zi vk v0 hL hArg hsum'
                        go_wp2
                        go_roundg gk2
                        case rel => exact ⟨e + 1, he1, by go_num, hI4⟩
                        case measure => exact hgk2
                    · have hI5 : Aside0 (AtO B.length w6 wr (some ⟨g, 0, none⟩) cap (atL B.length s (j + 1))) := ⟨hG.out.1⟩
                      clear hG hRow hdp' hput
                      go_wp2
                      go_roundg gk1
                      case rel => exact ⟨j + 1, hj1, by go_num, hI5⟩
                      case measure => exact hgk1
              · have hB9 := Aside0.mk (bl1 B6'.out hJ.out.b)
                obtain ⟨LL, MM, hLL, hMM, hlm⟩ := lens_any (W := W) (R := R) (t0 := t0) (t4 := t4) (hX4.out.below hB9.out) hsm.out hLl.out (fun W1 hb => hD4.out W1 (bl1 hB9.out hb))
                have hle9 := low_len hl60 hvb.out H5.out.1 hMM hLL
                have hlm' := Aside0.mk hlm
                have hCl9 := Aside0.mk (fun (w' : World) (hb : Below wr.heap.size wr w') => hCl.out w' (bl1 hB9.out hb))
                have hA := Aside0.mk (fun (W1 : World) (hb : Below wr.heap.size wr W1) => awake_any W1 (hD4.out _ (bl1 hB9.out hb)))
                obtain ⟨a0, a1, a2, d0, d1, d2, d3, d4, d5, d6⟩ := hCl9.out wr (Below.refl _ _)
                have hF9 := Aside0.mk (bl1 B4'.out hB9.out)
                have q9 : decide (MM ≤ LL) = true := decide_eq_true hle9
                clear hLL hMM hlm hJ hB9 hD4 hX4 hCl H5 H6 B6'
                go_upto_region 30 with (fail)
                go_region_held3 (fun w' => w'.cell? ⟨b0, 0, none⟩ = some (.int .i64 W) ∧ w'.cell? ⟨b0, 1, none⟩ = some (.int .i64 R) ∧ w'.cell? ⟨b0, 2, none⟩ = some (.slice AL Lat.length cL) ∧ w'.cell? ⟨b0 + 1, 0, none⟩ = some (.slice AP P.length cP) ∧ w'.cell? ⟨b0 + 1, 1, none⟩ = some (.slice AI B.length cI) ∧ w'.cell? ⟨b0 + 1, 2, none⟩ = some (.int .i64 t0) ∧ w'.cell? ⟨b0 + 1, 3, none⟩ = some (.slice A3 t1.length c3) ∧ w'.cell? ⟨b0 + 1, 4, none⟩ = some (.slice A4 t2.length c4) ∧ w'.cell? ⟨b0 + 1, 5, none⟩ = some (.slice A5 t3.length c5) ∧ w'.cell? ⟨b0 + 1, 6, none⟩ = some (.int .i64 t4)) (first | assumption | exact ⟨a0, a1, a2, d0, d1, d2, d3, d4, d5, d6⟩ | go_keep) (first
                  | ((go_at_call 8; with_reducible refine (hA.out _ ?_).mono ?_)
                     · first | exact Below.refl _ _ | exact below_drew (Below.refl _ _) | exact pw_below_drewN (Below.refl _ _) _
                     rintro e' wa ⟨rfl, Bx0⟩
                     have Bx : Below wr.heap.size wr wa := by first | exact Bx0 | exact (below_drew (Below.refl _ wr)).trans Bx0 | exact (pw_below_drewN (Below.refl _ wr) _).trans Bx0
                     clear Bx0
                     have f1 := hCl9.out wa Bx
                     have Ba := Aside0.mk Bx
                     clear Bx)
                  | ((go_at_call 15; with_reducible refine (hlm'.out _ Ba.out).2.2.1.mono ?_)
                     rintro e' wb ⟨rfl, Bx⟩
                     have f2 := hCl9.out wb (bl1 Ba.out Bx)
                     have Bb := Aside0.mk (bl1 Ba.out Bx)
                     clear Bx)
                  | ((go_at_call 13; with_reducible refine (hlm'.out _ Bb.out).1.mono ?_)
                     rintro e' wc ⟨rfl, Bx⟩
                     have f3 := hCl9.out wc (bl1 Bb.out Bx)
                     have Bc := Aside0.mk (bl1 Bb.out Bx)
                     clear Bx)
                  | fail)
                have hF := Aside0.mk (bl1 hF9.out Bc.out)
                clear hF9 Bc Bb Ba f1 f2 f3 hA hlm' hCl9 a0 a1 a2 d0 d1 d2 d3 d4 d5 d6
                go_wp2
                go_ret
                exact ⟨rfl, hF.out⟩
theorem so_walk (cs0 : Array Value) (x0 : S24) (cs1 : Array Value) (x1 : S31) (W : World) (K0 : k24.K W x0 cs0.toList) (g0 : good24 x0) (K1 : k31.K W x1 cs1.toList) (g1 : good31 x1) (hDN : DN W) :
    Calls Tryd.prog 4 #[.agg cs0, .agg cs1] W fun e w' => e = .returned (.bool true) ∧ Below W.heap.size W w' := by
  obtain ⟨A2, c2, e0, l2, q2⟩ := op24_open K0
  obtain ⟨B0, d0, B1, d1, B3, d3, B4, d4, B5, d5, e1, m0, r0, m1, r1, m3, r3, m4, r4, m5, r5⟩ := op31_open K1
  rw [show cs0 = _ from congrArg List.toArray e0, show cs1 = _ from congrArg List.toArray e1]
  exact so_any ⟨q2, l2, r0, m0, r1, m1, r3, m3, r4, m4, r5, m5⟩ hDN
end
end Go.Proofs.YtjacphcbiaacnaaDoor
end

