import Derived.Lib.SliceRun
import Derived.Test.YtjacphcbiaacnaaDoorRows
import Derived.WalkKit
import Derived.ProofKit
import Derived.OpenShut
import Derived.SizedLaws
import Derived.Deep.Slices
import Derived.Test.YtjacphcbiaacnaaDoorMSFu13
section
set_option linter.unusedVariables false
set_option linter.unusedSimpArgs false
set_option linter.unusedSectionVars false
namespace Go.Proofs.YtjacphcbiaacnaaDoor
open Go.RowKit Go.Proofs.YtjacphcbiaacnaaDoorW.PrintWords Go.Proofs.YtjacphcbiaacnaaDoor.PDigraphTells Mem Sc
section
variable {w w' : World} {W R : Int} {AL : Option Addr} {cL : Nat} {Lat : List Int} {AP : Option Addr} {cP : Nat} {P : List Int} {AI : Option Addr} {cI : Nat} {B : List S48} {A3 : Option Addr} {c3 : Nat} {t1 : List Int} {A4 : Option Addr} {c4 : Nat} {t2 : List Int} {A5 : Option Addr} {c5 : Nat} {t3 : List S98} {t0 t4 : Int}
def BS (w : World) (W R : Int) (Lat : List Int) (B : List S48) (e : Ending) (w' : World) : Prop :=
 ∃ vo vy o y, e = .returned (.tuple #[vo, vy]) ∧ IsB W R Lat B o y ∧ Kd.R (Kd.int .i64) 3 w' 0 (fun k => w.heap.size ≤ k) vo o ∧ Kd.R (Kd.int .i64) 3 w' 0 (fun k => w.heap.size ≤ k) vy y ∧ Below w.heap.size w w'
theorem run_ns (h0 : 0 < w.heap.size) (hDN : ∀ W1 : World, Below w.heap.size w W1 → DN W1) (hB : sml B) (hv : validB W R Lat = true) {e : Ending} {w1 : World} (h : NS w W R AL cL Lat AI cI B e w1) :
  ∃ p, e = .returned (.pointer (some ⟨p, 0, none⟩)) ∧ Below w.heap.size w w1 ∧ Calls Tryd.prog 27 #[.pointer (some ⟨p, 0, none⟩)] w1 (BS w W R Lat B) := by
 obtain ⟨p, AD, cD, AH, cH, T, AY, cY, rfl, hT, hs, hb, hx⟩ := h
 refine ⟨p, rfl, hb, ?_⟩
 have hok := insS_ok hv hB.len
 have hW := (validB_iff hv).2.1
 by_cases hn : B.length = 0
 ·refine (run_zero hs hn).mono ?_
  rintro e w2 ⟨rfl, B2⟩
  refine ⟨_, _, [], [], rfl, .inr ⟨hv, T, st0, ⟨hT, ⟨0, by omega, rfl⟩, ?_⟩, rfl, rfl⟩, Kd.R_nil _ _ _ _ _, Kd.R_nil _ _ _ _ _, hb.trans (B2.mono hb.size)⟩
  show 0 = B.length
  exact hn.symm
 ·obtain ⟨gc, rfl, h1, h2, hR, hf⟩ := hx (by omega)
  refine (run_main hf hR hB hok ⟨by omega, hW.2⟩ hT (hDN _ hb) ⟨by omega, h2⟩).mono ?_
  rintro e w2 ⟨vo, vy, s, rfl, hF, r1, r2, hK⟩
  exact ⟨vo, vy, oL s, s.y, rfl, .inr ⟨hv, T, s, hF, rfl, rfl⟩, Kd.R_mono r1 (fun k hk => Nat.le_trans hb.size hk), Kd.R_mono r2 (fun k hk => Nat.le_trans hb.size hk), ((Kp.of_below hb (fun _ => False)).then_ hK (fun k e => .inr (by rw [e]; exact h1))).none_below⟩
theorem two_cells {w2 : World} (hw2 : (w.alloc (.cells #[.int .i64 W, .int .i64 R, .slice AL Lat.length cL] 24 (0, 0))).alloc (.cells #[.slice AP P.length cP, .slice AI B.length cI, .int .i64 t0, .slice A3 t1.length c3, .slice A4 t2.length c4, .slice A5 t3.length c5, .int .i64 t4] 31 (0, 0)) = w2) {b0 : Nat} (hb0 : w.heap.size = b0) : Below w.heap.size w w2 ∧ ∀ w', Below w2.heap.size w2 w' → w'.cell? ⟨b0, 0, none⟩ = some (.int .i64 W) ∧ w'.cell? ⟨b0, 1, none⟩ = some (.int .i64 R) ∧ w'.cell? ⟨b0, 2, none⟩ = some (.slice AL Lat.length cL) ∧ w'.cell? ⟨b0 + 1, 0, none⟩ = some (.slice AP P.length cP) ∧ w'.cell? ⟨b0 + 1, 1, none⟩ = some (.slice AI B.length cI) ∧ w'.cell? ⟨b0 + 1, 2, none⟩ = some (.int .i64 t0) ∧ w'.cell? ⟨b0 + 1, 3, none⟩ = some (.slice A3 t1.length c3) ∧ w'.cell? ⟨b0 + 1, 4, none⟩ = some (.slice A4 t2.length c4) ∧ w'.cell? ⟨b0 + 1, 5, none⟩ = some (.slice A5 t3.length c5) ∧ w'.cell? ⟨b0 + 1, 6, none⟩ = some (.int .i64 t4) := by
 have z1 : w2.heap[b0]? = some (.cells #[.int .i64 W, .int .i64 R, .slice AL Lat.length cL] 24 (0, 0)) := by
  rw [← hw2, ← hb0, Below.heap_alloc _ _ _ (by simp)]
  exact heap_alloc_new w _
 have z2 : w2.heap[b0 + 1]? = some (.cells #[.slice AP P.length cP, .slice AI B.length cI, .int .i64 t0, .slice A3 t1.length c3, .slice A4 t2.length c4, .slice A5 t3.length c5, .int .i64 t4] 31 (0, 0)) := by
  have := heap_alloc_new (w.alloc (.cells #[.int .i64 W, .int .i64 R, .slice AL Lat.length cL] 24 (0, 0))) (.cells #[.slice AP P.length cP, .slice AI B.length cI, .int .i64 t0, .slice A3 t1.length c3, .slice A4 t2.length c4, .slice A5 t3.length c5, .int .i64 t4] 31 (0, 0))
  rw [hw2, show (w.alloc (.cells #[.int .i64 W, .int .i64 R, .slice AL Lat.length cL] 24 (0, 0))).heap.size = b0 + 1 by rw [← hb0]; simp] at this
  exact this
 refine ⟨by rw [← hw2]; exact below_alloc (below_alloc (Below.refl _ w) _) _, fun w' hb => ?_⟩
 have q1 := (hb.block b0 (blk_lt' z1)).trans z1
 have q2 := (hb.block (b0 + 1) (blk_lt' z2)).trans z2
 exact ⟨cell_at q1 rfl, cell_at q1 rfl, cell_at q1 rfl, cell_at q2 rfl, cell_at q2 rfl, cell_at q2 rfl, cell_at q2 rfl, cell_at q2 rfl, cell_at q2 rfl, cell_at q2 rfl⟩
set_option maxRecDepth 100000 in
set_option maxHeartbeats 4000000 in
theorem block_any (h : Bk w AL cL Lat AP cP P AI cI B A3 c3 t1 A4 c4 t2 A5 c5 t3) (hB : sml B) (hLl : Lat.length < 1000000000) (hDN : DN w) :
  Calls Tryd.prog 9 #[.agg #[.int .i64 W, .int .i64 R, .slice AL Lat.length cL], .agg #[.slice AP P.length cP, .slice AI B.length cI, .int .i64 t0, .slice A3 t1.length c3, .slice A4 t2.length c4, .slice A5 t3.length c5, .int .i64 t4]] w (BS w W R Lat B) := by
 obtain ⟨q, hq⟩ := (valid_f W R Lat hLl).get
 have h0 : 0 < w.heap.size := hDN.pos
 have hD : ∀ W1 : World, Below w.heap.size w W1 → DN W1 := fun W1 hb => hDN.below hb h0
 have hV := Aside0.mk (fun (W1 : World) (e1 : Below w.heap.size w W1) => machine_ValidModel.calls q W R AL cL Lat _ W1 (h.below e1).rL h.hL hq)
 obtain ⟨vb, hvb⟩ : ∃ vb, validB W R Lat = vb := ⟨_, rfl⟩
 rw [hvb] at hV
 have hX := Aside0.mk (And.intro h (And.intro hB (And.intro h0 (And.intro hD hvb))))
 clear h hB h0 hD hvb hq hDN hLl
 go_enter Tryd.func9, Tryd.ntmps9
 go_wp2_with fail
 obtain ⟨w2, hw2⟩ : ∃ w2, (w.alloc (.cells #[.int .i64 W, .int .i64 R, .slice AL Lat.length cL] 24 (0, 0))).alloc (.cells #[.slice AP P.length cP, .slice AI B.length cI, .int .i64 t0, .slice A3 t1.length c3, .slice A4 t2.length c4, .slice A5 t3.length c5, .int .i64 t4] 31 (0, 0)) = w2 := ⟨_, rfl⟩
 obtain ⟨b0, hb0⟩ : ∃ b0, w.heap.size = b0 := ⟨_, rfl⟩
 have h2 := two_cells hw2 hb0
 rw [hw2, hb0]
 clear hw2 hb0
 obtain ⟨B2, hCl⟩ := h2
 replace hCl := Aside0.mk hCl
 replace B2 := Aside0.mk B2
 refine (hV.out _ B2.out).mono ?_
 rintro e w3 ⟨rfl, B3⟩
 have B3' := Aside0.mk (bl1 B2.out B3)
 obtain ⟨a0, a1, a2, d0, d1, d2, d3, d4, d5, d6⟩ := hCl.out w3 B3
 clear B3 hV hCl B2
 cases vb with
 | false =>
  have hF : Aside0 (BS w W R Lat B (.returned (.tuple #[.slice none 0 0, .slice none 0 0])) w3) := ⟨_, _, [], [], rfl, .inl ⟨hX.out.2.2.2.2, rfl, rfl⟩, Kd.R_nil _ _ _ _ _, Kd.R_nil _ _ _ _ _, B3'.out⟩
  clear hX B3' a0 a1 a2 d0 d1 d2 d3 d4 d5 d6
  go_wp2
  go_ret2
  exact hF.out
 | true =>
  go_wp2_with fail
  refine (new_any (hX.out.1.below B3'.out) hX.out.2.1 (insS_ok hX.out.2.2.2.2 hX.out.2.1.len)).mono ?_
  rintro e w4 hNS
  obtain ⟨p, rfl, B4, hRun⟩ := run_ns (Nat.lt_of_lt_of_le hX.out.2.2.1 B3'.out.size) (fun W1 hb => hX.out.2.2.2.1 W1 (bl1 B3'.out hb)) hX.out.2.1 hX.out.2.2.2.2 hNS
  clear hNS a0 a1 a2 d0 d1 d2 d3 d4 d5 d6
  replace hRun := Aside0.mk hRun
  go_wp2_with fail
  refine hRun.out.mono ?_
  rintro e w5 ⟨vo, vy, o, y, rfl, hIs, r1, r2, B5⟩
  have hF : Aside0 (BS w W R Lat B (.returned (.tuple #[vo, vy])) w5) := ⟨vo, vy, o, y, rfl, hIs, Kd.R_mono r1 (fun k hk => Nat.le_trans B3'.out.size hk), Kd.R_mono r2 (fun k hk => Nat.le_trans B3'.out.size hk), bl1 B3'.out B5⟩
  clear hRun hIs r1 r2 B5 B4 hX B3'
  go_wp2
  go_ret2
  exact hF.out
end
end Go.Proofs.YtjacphcbiaacnaaDoor
end

section
set_option linter.unusedVariables false
set_option linter.unusedSimpArgs false
set_option linter.unusedSectionVars false
namespace Go.Proofs.YtjacphcbiaacnaaDoor
open Go.RowKit Go.Proofs.YtjacphcbiaacnaaDoorW.PrintWords Go.Proofs.YtjacphcbiaacnaaDoor.PDigraphTells Mem Sc
section
variable {w w' : World} {W R : Int} {AL : Option Addr} {cL : Nat} {Lat : List Int} {AP : Option Addr} {cP : Nat} {P : List Int} {AI : Option Addr} {cI : Nat} {B : List S48} {A3 : Option Addr} {c3 : Nat} {t1 : List Int} {A4 : Option Addr} {c4 : Nat} {t2 : List Int} {A5 : Option Addr} {c5 : Nat} {t3 : List S98} {t0 t4 : Int}
theorem IsB.lat (hB : B.length ≤ 60) {o y : List Int} (h : IsB W R Lat B o y) (hp : 0 < o.length) (i : Nat) : 1 ≤ latI Lat (rd_T48 B (i : Int)).f0 ∧ latI Lat (rd_T48 B (i : Int)).f0 ≤ 100 := by
  rcases h with ⟨_, rfl, _⟩ | ⟨hv, _⟩
  · simp at hp
  · exact (insS_ok hv hB).lt1 i
set_option maxRecDepth 100000 in
set_option maxHeartbeats 4000000 in
theorem len_any (h : Bk w AL cL Lat AP cP P AI cI B A3 c3 t1 A4 c4 t2 A5 c5 t3) (hB : sml B) (hLl : Lat.length < 1000000000) (hDN : DN w) :
    Calls Tryd.prog 13 #[.agg #[.int .i64 W, .int .i64 R, .slice AL Lat.length cL], .agg #[.slice AP P.length cP, .slice AI B.length cI, .int .i64 t0, .slice A3 t1.length c3, .slice A4 t2.length c4, .slice A5 t3.length c5, .int .i64 t4]] w fun e w' => ∃ o y, e = .returned (.int .i64 (lenF Lat B o y 0)) ∧ IsB W R Lat B o y ∧ Below w.heap.size w w' := by
  have hX := Aside0.mk (And.intro h (And.intro hB (And.intro hLl hDN)))
  clear h hB hLl hDN
  go_enter Tryd.func13, Tryd.ntmps13
  go_upto_region 1 with (fail)
  obtain ⟨w2, hw2⟩ : ∃ w2, (w.alloc (.cells #[.int .i64 W, .int .i64 R, .slice AL Lat.length cL] 24 (0, 0))).alloc (.cells #[.slice AP P.length cP, .slice AI B.length cI, .int .i64 t0, .slice A3 t1.length c3, .slice A4 t2.length c4, .slice A5 t3.length c5, .int .i64 t4] 31 (0, 0)) = w2 := ⟨_, rfl⟩
  obtain ⟨b0, hb0⟩ : ∃ b0, w.heap.size = b0 := ⟨_, rfl⟩
  have h2 := two_cells hw2 hb0
  rw [hw2, hb0]
  clear hw2 hb0
  obtain ⟨B2, hCl⟩ := h2
  replace hCl := Aside0.mk hCl
  replace B2 := Aside0.mk B2
  obtain ⟨a0, a1, a2, d0, d1, d2, d3, d4, d5, d6⟩ := hCl.out w2 (Below.refl _ _)
  go_wp2_with fail
  refine (block_any (hX.out.1.below B2.out) hX.out.2.1 hX.out.2.2.1 (hX.out.2.2.2.below B2.out hX.out.2.2.2.pos)).mono ?_
  rintro e w3 ⟨vo, vy, o, y, rfl, hIs, r1, r2, B3⟩
  obtain ⟨Ao, co, ev, ho, Co⟩ := Kd.R_reads r1
  subst ev
  obtain ⟨Ay, cy, ev, hy, Cy⟩ := Kd.R_reads r2
  subst ev
  obtain ⟨hb1, hb2, hb3⟩ := hIs.bounds hX.out.2.1.len
  have hol : o.length ≤ 60 := Nat.le_trans hb2 hX.out.2.1.len
  have hK := Aside0.mk (And.intro hIs (And.intro Co (And.intro Cy (And.intro hb1 (And.intro hb3 B3)))))
  clear r1 r2 hIs Co Cy hb1 hb2 hb3 B3 ho hy a0 a1 a2 d0 d1 d2 d3 d4 d5 d6
  go_wp2_with fail
  go_loopg [18, 7] o.length (fun q v u wi => ∃ (j : Nat) (n : Int), j + q = o.length ∧ v = .int .i64 (j : Int) ∧ u = .int .i64 n ∧ Aside0 (lenF Lat B (o.drop j) (y.drop j) n = lenF Lat B o y 0 ∧ Below w3.heap.size w3 wi))
  case atStart => exact ⟨0, 0, by omega, rfl, rfl, ⟨rfl, Below.refl _ _⟩⟩
  case round =>
    obtain ⟨j, n, hj, rfl, rfl, hJ⟩ := hrel
    by_cases hlt : j < o.length
    · have hlti : (j : Int) < o.length := by omega
      obtain ⟨gk1, rfl⟩ : ∃ q, gk = q + 1 := ⟨gk - 1, by omega⟩
      have hj1 : j + 1 + gk1 = o.length := by omega
      have hgk : gk1 < gk1 + 1 := by omega
      have hBw := Aside0.mk (bl1 (bl1 B2.out hK.out.2.2.2.2.2) hJ.out.2)
      have hlt2 : j < y.length := by have := hK.out.2.2.2.1; omega
      have hj0 : (0 : Int) ≤ (j : Int) := by omega
      have hjy : (j : Int) < (y.length : Int) := by omega
      obtain ⟨ao, eA, x1⟩ := Kd.at_int (Kd.C_below hK.out.2.1 hJ.out.2) (j : Int) hj0 hlti
      subst eA
      obtain ⟨ay, eA, x2⟩ := Kd.at_int (Kd.C_below hK.out.2.2.1 hJ.out.2) (j : Int) hj0 hjy
      subst eA
      rw [Int.toNat_natCast] at x1 x2
      have hbd := hK.out.2.2.2.2.1 j hlt
      obtain ⟨a, ha⟩ : ∃ a : Nat, rd o (j : Int) = (a : Int) := ⟨(rd o (j : Int)).toNat, by omega⟩
      obtain ⟨yj, hyj⟩ : ∃ z, rd y (j : Int) = z := ⟨_, rfl⟩
      rw [ha, hyj] at hbd
      rw [ha] at x1
      rw [hyj] at x2
      have ha0 : (0 : Int) ≤ (a : Int) := by omega
      have ha1 : (a : Int) < (B.length : Int) := by omega
      obtain ⟨ad, A1, c1, eA, x0, _, _, _, _, _, _, _, hl1, hC1⟩ := at_T48 (hX.out.1.below hBw.out).rI (a : Int) ha0 ha1
      subst eA
      rw [Int.toNat_natCast] at x0
      clear hl1 hC1
      have hlb := hK.out.1.lat hX.out.2.1.len (by omega) a
      have hnx : lenF Lat B (o.drop (j + 1)) (y.drop (j + 1)) (mx n (yj + latI Lat (rd_T48 B (a : Int)).f0)) = lenF Lat B o y 0 := by
        have h9 := hJ.out.1
        rw [List.drop_eq_getElem_cons hlt, List.drop_eq_getElem_cons hlt2, lenF, ← rd_get o j hlt, ← rd_get y j hlt2, ha, hyj] at h9
        exact h9
      obtain ⟨fk, hfk⟩ : ∃ fk, (rd_T48 B (a : Int)).f0 = fk := ⟨_, rfl⟩
      rw [hfk] at x0 hlb hnx
      have hL := Aside0.mk (fun (W1 : World) (e1 : Below wr.heap.size wr W1) => machine_Latency.calls W R AL cL Lat fk _ W1 (Kd.C_below (hX.out.1.below hBw.out).rL e1) hX.out.1.hL (lat_f W R Lat fk))
      obtain ⟨lk, hlk⟩ : ∃ lk, latI Lat fk = lk := ⟨_, rfl⟩
      rw [hlk] at hL hlb hnx
      have hw : IntKind.i64.wrap (yj + lk) = yj + lk := (IntKind.wrap_i64 _).trans (by omega)
      obtain ⟨a0, a1, a2, _, d1, _, _, _, _, _⟩ := hCl.out wr (bl1 hK.out.2.2.2.2.2 hJ.out.2)
      have hFa := Aside0.mk (And.intro hw hnx)
      clear hw hnx hlb hbd ha hyj hfk hlk
      go_upto_region 6 with (fail)
      go_region_held3 (fun w' => w'.cell? (ay.add j) = some (.int .i64 yj) ∧ w'.cell? ⟨b0, 0, none⟩ = some (.int .i64 W) ∧ w'.cell? ⟨b0, 1, none⟩ = some (.int .i64 R) ∧ w'.cell? ⟨b0, 2, none⟩ = some (.slice AL Lat.length cL) ∧ w'.cell? ⟨b0 + 1, 1, none⟩ = some (.slice (some ad) B.length cI) ∧ w'.cell? (ad.add (a * 8)) = some (.int .i64 fk)) (first | assumption | exact ⟨x2, a0, a1, a2, d1, x0⟩ | go_keep) (first
        | ((go_at_call 20; with_reducible refine (hL.out _ ?_).mono ?_)
           · first | exact Below.refl _ _ | exact below_drew (Below.refl _ _) | exact pw_below_drewN (Below.refl _ _) _
           rintro e' w6 ⟨rfl, Bx0⟩
           have Bx : Below wr.heap.size wr w6 := by first | exact Bx0 | exact (pw_below_drewN (Below.refl _ wr) _).trans Bx0
           clear Bx0
           have f1 : w6.cell? (ay.add j) = some (.int .i64 yj) ∧ w6.cell? ⟨b0, 0, none⟩ = some (.int .i64 W) ∧ w6.cell? ⟨b0, 1, none⟩ = some (.int .i64 R) ∧ w6.cell? ⟨b0, 2, none⟩ = some (.slice AL Lat.length cL) ∧ w6.cell? ⟨b0 + 1, 1, none⟩ = some (.slice (some ad) B.length cI) ∧ w6.cell? (ad.add (a * 8)) = some (.int .i64 fk) := ⟨(Below.cell Bx (World.block_lt_of_cell? _ _ x2)).trans x2, (Below.cell Bx (World.block_lt_of_cell? _ _ a0)).trans a0, (Below.cell Bx (World.block_lt_of_cell? _ _ a1)).trans a1, (Below.cell Bx (World.block_lt_of_cell? _ _ a2)).trans a2, (Below.cell Bx (World.block_lt_of_cell? _ _ d1)).trans d1, (Below.cell Bx (World.block_lt_of_cell? _ _ x0)).trans x0⟩
           have H6 := Aside0.mk (bl1 hJ.out.2 Bx)
           clear Bx)
        | fail)
      rw [hFa.out.1]
      have hI1 : Aside0 (lenF Lat B (o.drop (j + 1)) (y.drop (j + 1)) (if n < yj + lk then yj + lk else n) = lenF Lat B o y 0 ∧ Below w3.heap.size w3 w6) := ⟨by have h9 := hFa.out.2; unfold mx at h9; first | exact h9 | (rw [← h9]; congr 1; split <;> split <;> omega), H6.out⟩
      obtain ⟨n2, hn2⟩ : ∃ n2, (if n < yj + lk then yj + lk else n) = n2 := ⟨_, rfl⟩
      rw [hn2] at hI1 ⊢
      clear hn2 hFa H6 f1 hL hJ hBw x0 x1 x2 a0 a1 a2 d1 hK hX hCl B2
      go_wp2_with fail
      go_roundg gk1
      case rel => exact ⟨j + 1, n2, hj1, by go_num, rfl, hI1⟩
      case measure => exact hgk
    · have hE : n = lenF Lat B o y 0 := by
        have h9 := hJ.out.1
        rw [List.drop_of_length_le (by omega), show lenF Lat B [] (y.drop j) n = n by (cases y.drop j <;> rfl)] at h9
        exact h9
      have hF := Aside0.mk (And.intro hK.out.1 (bl1 (bl1 B2.out hK.out.2.2.2.2.2) hJ.out.2))
      subst hE
      clear hJ hK hX hCl B2
      go_wp2
      go_ret
      exact ⟨o, y, rfl, hF.out⟩
end
end Go.Proofs.YtjacphcbiaacnaaDoor
end

section
set_option linter.unusedVariables false
set_option linter.unusedSimpArgs false
set_option linter.unusedSectionVars false
namespace Go.Proofs.YtjacphcbiaacnaaDoor
open Go.RowKit Go.Proofs.YtjacphcbiaacnaaDoorW.PrintWords Go.Proofs.YtjacphcbiaacnaaDoor.PDigraphTells Mem Sc
def IsMx (xs : List Int) (m r : Int) : Prop := (r = m ∨ r ∈ xs) ∧ m ≤ r ∧ ∀ x ∈ xs, x ≤ r
theorem IsMx.uniq {xs : List Int} {m r r' : Int} (h : IsMx xs m r) (g : IsMx xs m r') : r = r' := by
 have h1 : r ≤ r' := by
  rcases h.1 with e | e
  ·rw [e]; exact g.2.1
  ·exact g.2.2 _ e
 have h2 : r' ≤ r := by
  rcases g.1 with e | e
  ·rw [e]; exact h.2.1
  ·exact h.2.2 _ e
 omega
theorem mx_le (a b : Int) : (mx a b = a ∨ mx a b = b) ∧ a ≤ mx a b ∧ b ≤ mx a b := by unfold mx; split <;> omega
theorem foldl_mx : ∀ (xs : List Int) (m : Int), IsMx xs m (xs.foldl mx m)
 | [], m => ⟨.inl rfl, Int.le_refl _, fun x hx => by simp at hx⟩
 | x :: xs, m => by
  obtain ⟨h1, h2, h3⟩ := foldl_mx xs (mx m x)
  obtain ⟨g1, g2, g3⟩ := mx_le m x
  refine ⟨?_, Int.le_trans g2 h2, fun z hz => ?_⟩
  ·rw [List.foldl_cons]
   rcases h1 with e | e
   ·rcases g1 with e2 | e2
    ·exact .inl (e.trans e2)
    ·exact .inr (by rw [e, e2]; simp)
   ·exact .inr (by simp [e])
  ·rw [List.foldl_cons]
   rcases List.mem_cons.1 hz with rfl | hz
   ·exact Int.le_trans g3 h2
   ·exact h3 z hz
theorem mx_low {xs : List Int} (hp : 0 < xs.length) (q : Int) : IsMx xs q (mx ((xs.drop 1).foldl mx (rd xs (0 : Nat))) q) := by
 obtain ⟨x, ys, rfl⟩ : ∃ x ys, xs = x :: ys := by cases xs with | nil => simp at hp | cons x ys => exact ⟨x, ys, rfl⟩
 have e0 : rd (x :: ys) ((0 : Nat) : Int) = x := rfl
 rw [e0, List.drop_one, List.tail_cons]
 obtain ⟨h1, h2, h3⟩ := foldl_mx ys x
 obtain ⟨g1, g2, g3⟩ := mx_le (ys.foldl mx x) q
 refine ⟨?_, g3, fun z hz => ?_⟩
 ·rcases g1 with e | e
  ·rw [e]
   rcases h1 with e2 | e2
   ·exact .inr (by rw [e2]; simp)
   ·exact .inr (by simp [e2])
  ·exact .inl e
 ·rcases List.mem_cons.1 hz with rfl | hz
  ·exact Int.le_trans h2 g2
  ·exact Int.le_trans (h3 z hz) g2
set_option maxRecDepth 100000 in
set_option maxHeartbeats 4000000 in
theorem max_any {w : World} {A : Option Addr} {c : Nat} {xs : List Int} (hC : Kd.C (Kd.int .i64) w A xs.length xs) (hc : xs.length ≤ c) (hp : 0 < xs.length) (hl : xs.length ≤ 1000) :
  Calls Tryd.prog 32 #[.slice A xs.length c] w fun e w' => e = .returned (.int .i64 ((xs.drop 1).foldl mx (rd xs (0 : Nat)))) ∧ Below w.heap.size w w' := by
 obtain ⟨a, eA, x0⟩ := Kd.at_int hC ((0 : Nat) : Int) (by omega) (by omega)
 subst eA
 rw [Int.toNat_natCast] at x0
 have x0' : w.cell? a = some (.int .i64 (rd xs ((0 : Nat) : Int))) := by
  have e : a.add 0 = a := by cases a; simp [Addr.add]
  rw [e] at x0
  exact x0
 obtain ⟨m0, hm0⟩ : ∃ m, rd xs ((0 : Nat) : Int) = m := ⟨_, rfl⟩
 rw [hm0] at x0 x0' ⊢
 obtain ⟨r, hr⟩ : ∃ r, (xs.drop 1).foldl mx m0 = r := ⟨_, rfl⟩
 rw [hr]
 have hX := Aside0.mk (And.intro hC hr)
 have hp1 : ¬ (xs.length : Int) < 1 := by omega
 have hp2 : (0 : Int) < (xs.length : Int) := by omega
 clear hC hr hm0
 go_enter Tryd.func32, Tryd.ntmps32
 go_wp2_with fail
 go_loopg [3, 4] (xs.length - 1) (fun q v3 v4 wi => ∃ (j : Nat) (m : Int), j + q = xs.length ∧ 1 ≤ j ∧ v3 = .int .i64 m ∧ v4 = .int .i64 (j : Int) ∧ Aside0 ((xs.drop j).foldl mx m = r ∧ Below w.heap.size w wi))
 case atStart => exact ⟨1, m0, by omega, Nat.le_refl _, rfl, rfl, ⟨hX.out.2, Below.refl _ _⟩⟩
 case round =>
  obtain ⟨j, m, hj, hj9, rfl, rfl, hJ⟩ := hrel
  by_cases hlt : j < xs.length
  ·have hlti : (j : Int) < xs.length := by omega
   have hj0 : (0 : Int) ≤ (j : Int) := by omega
   obtain ⟨gk1, rfl⟩ : ∃ q, gk = q + 1 := ⟨gk - 1, by omega⟩
   have hj1 : j + 1 + gk1 = xs.length := by omega
   have hgk : gk1 < gk1 + 1 := by omega
   obtain ⟨a2, eA, x1⟩ := Kd.at_int (Kd.C_below hX.out.1 hJ.out.2) (j : Int) hj0 hlti
   injection eA with eA
   subst eA
   rw [Int.toNat_natCast] at x1
   have hI1 : Aside0 ((xs.drop (j + 1)).foldl mx (mx m (rd xs (j : Int))) = r ∧ Below w.heap.size w wr) := ⟨by
    have h9 := hJ.out.1
    rw [List.drop_eq_getElem_cons hlt, List.foldl_cons, ← rd_get xs j hlt] at h9
    exact h9, hJ.out.2⟩
   obtain ⟨xj, hxj⟩ : ∃ z, rd xs (j : Int) = z := ⟨_, rfl⟩
   rw [hxj] at x1 hI1
   clear hxj hJ x0 x0'
   by_cases hmx : m < xj
   ·rw [show mx m xj = xj from if_pos hmx] at hI1
    go_wp2_with fail
    go_roundg gk1
    case rel => exact ⟨j + 1, xj, hj1, by omega, rfl, by go_num, hI1⟩
    case measure => exact hgk
   ·rw [show mx m xj = m from if_neg hmx] at hI1
    go_wp2_with fail
    go_roundg gk1
    case rel => exact ⟨j + 1, m, hj1, by omega, rfl, by go_num, hI1⟩
    case measure => exact hgk
  ·obtain rfl : m = r := by
    have h9 := hJ.out.1
    rw [List.drop_of_length_le (by omega)] at h9
    exact h9
   have hF := Aside0.mk hJ.out.2
   clear hJ hX x0 x0'
   go_wp2
   go_ret
   exact ⟨rfl, hF.out⟩
end Go.Proofs.YtjacphcbiaacnaaDoor
end

section
set_option linter.unusedVariables false
set_option linter.unusedSimpArgs false
set_option linter.unusedSectionVars false
namespace Go.Proofs.YtjacphcbiaacnaaDoor
open Go.RowKit Go.Proofs.YtjacphcbiaacnaaDoorW.PrintWords Go.Proofs.YtjacphcbiaacnaaDoor.PDigraphTells Mem Sc
section
variable {w w' : World} {W R : Int} {AL : Option Addr} {cL : Nat} {Lat : List Int} {AP : Option Addr} {cP : Nat} {P : List Int} {AI : Option Addr} {cI : Nat} {B : List S48} {A3 : Option Addr} {c3 : Nat} {t1 : List Int} {A4 : Option Addr} {c4 : Nat} {t2 : List Int} {A5 : Option Addr} {c5 : Nat} {t3 : List S98} {t0 t4 : Int}
def IsLow (W R : Int) (Lat : List Int) (B : List S48) (r : Int) : Prop := ((validB W R Lat = false ∨ B.length = 0) ∧ r = 0) ∨ (validB W R Lat = true ∧ 0 < B.length ∧ ∃ T, Hp (insS W Lat B) T 0 ∧ IsMx T (Int.tdiv ((B.length : Int) - 1) W + 1) r)
theorem IsLow.uniq {r r' : Int} (h : IsLow W R Lat B r) (g : IsLow W R Lat B r') : r = r' := by
 rcases h with ⟨h1, rfl⟩ | ⟨h1, h2, T, h3, h4⟩ <;> rcases g with ⟨g1, rfl⟩ | ⟨g1, g2, U, g3, g4⟩
 ·rfl
 ·rcases h1 with h1 | h1
  ·rw [h1] at g1; cases g1
  ·omega
 ·rcases g1 with g1 | g1
  ·rw [h1] at g1; cases g1
  ·omega
 ·have := h3.uniq g3
  subst this
  exact h4.uniq g4
theorem quo_up {n : Nat} {W : Int} (hn : 0 < n) (hW : 1 ≤ W ∧ W ≤ 8) : Int.tdiv ((n : Int) + W - 1) W = Int.tdiv ((n : Int) - 1) W + 1 := by
 rw [Int.tdiv_eq_ediv_of_nonneg (by omega), Int.tdiv_eq_ediv_of_nonneg (by omega), show (n : Int) + W - 1 = ((n : Int) - 1) + W * 1 by omega, Int.add_mul_ediv_left _ _ (by omega)]
theorem quo_bd {n : Nat} {W : Int} (hn : 0 < n ∧ n ≤ 60) (hW : 1 ≤ W ∧ W ≤ 8) : 0 ≤ Int.tdiv ((n : Int) - 1) W ∧ Int.tdiv ((n : Int) - 1) W ≤ 60 := by
 rw [Int.tdiv_eq_ediv_of_nonneg (by omega)]
 refine ⟨Int.ediv_nonneg (by omega) (by omega), ?_⟩
 exact Int.le_trans (Int.ediv_le_self _ (by omega)) (by omega)
theorem max_row {p : Nat} {AD : Option Addr} {cD : Nat} {AH : Option Addr} {cH : Nat} {T : List Int} {AY : Option Addr} {cY : Nat} {Y : List Int} (h : Sf w p W R AL cL Lat AI cI B AD cD AH cH T AY cY Y) (hT : T.length = B.length) (hl : B.length ≤ 60) (hp : 0 < B.length) :
  Calls Tryd.prog 32 #[.slice AH B.length cH] w fun e w' => e = .returned (.int .i64 ((T.drop 1).foldl mx (rd T (0 : Nat)))) ∧ Below w.heap.size w w' := by
 have hC := h.H
 have hc := h.hH
 rw [← hT] at hC hc ⊢
 exact max_any hC hc (by omega) (by omega)
set_option maxRecDepth 100000 in
set_option maxHeartbeats 4000000 in
theorem low_any (h : Bk w AL cL Lat AP cP P AI cI B A3 c3 t1 A4 c4 t2 A5 c5 t3) (hB : sml B) (hLl : Lat.length < 1000000000) :
  Calls Tryd.prog 15 #[.agg #[.int .i64 W, .int .i64 R, .slice AL Lat.length cL], .agg #[.slice AP P.length cP, .slice AI B.length cI, .int .i64 t0, .slice A3 t1.length c3, .slice A4 t2.length c4, .slice A5 t3.length c5, .int .i64 t4]] w fun e w' => ∃ r, e = .returned (.int .i64 r) ∧ IsLow W R Lat B r ∧ Below w.heap.size w w' := by
 obtain ⟨q, hq⟩ := (valid_f W R Lat hLl).get
 have hl := hB.len
 have hV := Aside0.mk (fun (W1 : World) (e1 : Below w.heap.size w W1) => machine_ValidModel.calls q W R AL cL Lat _ W1 (h.below e1).rL h.hL hq)
 obtain ⟨vb, hvb⟩ : ∃ vb, validB W R Lat = vb := ⟨_, rfl⟩
 rw [hvb] at hV
 have hX := Aside0.mk (And.intro h (And.intro hB hvb))
 clear h hB hvb hq hLl
 go_enter Tryd.func15, Tryd.ntmps15
 go_wp2_with fail
 obtain ⟨w2, hw2⟩ : ∃ w2, (w.alloc (.cells #[.int .i64 W, .int .i64 R, .slice AL Lat.length cL] 24 (0, 0))).alloc (.cells #[.slice AP P.length cP, .slice AI B.length cI, .int .i64 t0, .slice A3 t1.length c3, .slice A4 t2.length c4, .slice A5 t3.length c5, .int .i64 t4] 31 (0, 0)) = w2 := ⟨_, rfl⟩
 obtain ⟨b0, hb0⟩ : ∃ b0, w.heap.size = b0 := ⟨_, rfl⟩
 have h2 := two_cells hw2 hb0
 rw [hw2, hb0]
 clear hw2 hb0
 obtain ⟨B2, hCl⟩ := h2
 replace hCl := Aside0.mk hCl
 replace B2 := Aside0.mk B2
 refine (hV.out _ B2.out).mono ?_
 rintro e w3 ⟨rfl, B3⟩
 have B3' := Aside0.mk (bl1 B2.out B3)
 replace hCl := Aside0.mk (fun (w' : World) (hb : Below w3.heap.size w3 w') => hCl.out w' (bl1 B3 hb))
 obtain ⟨a0, a1, a2, d0, d1, d2, d3, d4, d5, d6⟩ := hCl.out w3 (Below.refl _ _)
 clear B3 hV B2
 cases vb with
 | false =>
  have hF : Aside0 (IsLow W R Lat B 0 ∧ Below w.heap.size w w3) := ⟨.inl ⟨.inl hX.out.2.2, rfl⟩, B3'.out⟩
  clear hX B3' hCl a0 a1 a2 d0 d1 d2 d3 d4 d5 d6
  go_wp2
  go_ret
  exact ⟨_, rfl, hF.out⟩
 | true =>
  by_cases hn : B.length = 0
  ·have hn2 : (B.length : Int) = 0 := by omega
   have hF : Aside0 (IsLow W R Lat B 0 ∧ Below w.heap.size w w3) := ⟨.inl ⟨.inr hn, rfl⟩, B3'.out⟩
   clear hX B3' hCl
   go_wp2
   go_ret
   exact ⟨_, rfl, hF.out⟩
  ·have hn2 : ¬ (B.length : Int) = 0 := by omega
   have hnb : ((B.length : Int) == 0) = false := by simpa using hn2
   have hW := (validB_iff hX.out.2.2).2.1
   have hW0 : ¬ W = 0 := by omega
   have hWb : (W == 0) = false := by simpa using hW0
   have hqu := quo_up (n := B.length) (by omega) hW
   have hqb := quo_bd (n := B.length) ⟨by omega, hl⟩ hW
   have s1 : IntKind.i64.wrap ((B.length : Int) + W) = (B.length : Int) + W := (IntKind.wrap_i64 _).trans (by omega)
   have s2 : IntKind.i64.wrap ((B.length : Int) + W - 1) = (B.length : Int) + W - 1 := (IntKind.wrap_i64 _).trans (by omega)
   obtain ⟨qv, hqv⟩ : ∃ qv, Int.tdiv ((B.length : Int) - 1) W + 1 = qv := ⟨_, rfl⟩
   rw [hqv] at hqu
   have s3 : IntKind.i64.wrap qv = qv := (IntKind.wrap_i64 _).trans (by omega)
   have hS := Aside0.mk (And.intro s1 (And.intro s2 (And.intro hqu (And.intro s3 hqv))))
   have hNew := Aside0.mk (fun (W1 : World) (e1 : Below w3.heap.size w3 W1) => new_any (R := R) (t0 := t0) (t4 := t4) (hX.out.1.below (bl1 B3'.out e1)) hX.out.2.1 (insS_ok hX.out.2.2 hX.out.2.1.len))
   have hlen := Aside0.mk (And.intro hl (show 0 < B.length by omega))
   clear hqu hqb hqv s1 s2 s3
   go_upto_region 3 with (fail)
   refine Held.begin_ (S := fun w' => w'.cell? ⟨b0, 0, none⟩ = some (.int .i64 W) ∧ w'.cell? ⟨b0, 1, none⟩ = some (.int .i64 R) ∧ w'.cell? ⟨b0, 2, none⟩ = some (.slice AL Lat.length cL) ∧ w'.cell? ⟨b0 + 1, 0, none⟩ = some (.slice AP P.length cP) ∧ w'.cell? ⟨b0 + 1, 1, none⟩ = some (.slice AI B.length cI) ∧ w'.cell? ⟨b0 + 1, 2, none⟩ = some (.int .i64 t0) ∧ w'.cell? ⟨b0 + 1, 3, none⟩ = some (.slice A3 t1.length c3) ∧ w'.cell? ⟨b0 + 1, 4, none⟩ = some (.slice A4 t2.length c4) ∧ w'.cell? ⟨b0 + 1, 5, none⟩ = some (.slice A5 t3.length c5) ∧ w'.cell? ⟨b0 + 1, 6, none⟩ = some (.int .i64 t4)) 18 (by kernel_rfl) (by kernel_rfl) ?_ (fun hHeld => ?_)
   ·exact ⟨a0, a1, a2, d0, d1, d2, d3, d4, d5, d6⟩
   simp only [List.length_cons, List.length_nil, Nat.reduceAdd, List.replicate, Array.replicate]
   refine Held.take_ (v := ?vv689600) 0 rfl rfl (by kernel_rfl) (by kernel_rfl) (fun _ _ _ h => h) (by assumption) (Or.inl ⟨by rfl, ?hy689600⟩) ?_
   case hy689600 => intro w hSw; (try dsimp only at hSw); (go_simp <;> with_reducible rfl)
   try simp only [Act.put, List.setIfInBounds_toArray, List.set_cons_zero, List.set_cons_succ]
   refine Held.take_ (v := ?vv689601) 1 rfl rfl (by kernel_rfl) (by kernel_rfl) (fun _ _ _ h => h) (by assumption) (Or.inl ⟨by rfl, ?hy689601⟩) ?_
   case hy689601 => intro w hSw; (try dsimp only at hSw); (go_simp <;> with_reducible rfl)
   try simp only [Act.put, List.setIfInBounds_toArray, List.set_cons_zero, List.set_cons_succ]
   refine Held.take_ (v := ?vv689607) 7 rfl rfl (by kernel_rfl) (by kernel_rfl) (fun _ _ _ h => h) (by assumption) (Or.inl ⟨by rfl, ?hy689607⟩) ?_
   case hy689607 => intro w hSw; (try dsimp only at hSw); (go_simp <;> with_reducible rfl)
   try simp only [Act.put, List.setIfInBounds_toArray, List.set_cons_zero, List.set_cons_succ]
   refine Held.take_ (v := ?vv689608) 8 rfl rfl (by kernel_rfl) (by kernel_rfl) (fun _ _ _ h => h) (by assumption) (Or.inl ⟨by rfl, ?hy689608⟩) ?_
   case hy689608 => intro w hSw; (try dsimp only at hSw); (go_simp <;> with_reducible rfl)
   try simp only [Act.put, List.setIfInBounds_toArray, List.set_cons_zero, List.set_cons_succ]
   refine Held.take_ (v := ?vv689609) 9 rfl rfl (by kernel_rfl) (by kernel_rfl) (fun _ _ _ h => h) (by assumption) (Or.inl ⟨by rfl, ?hy689609⟩) ?_
   case hy689609 => intro w hSw; (try dsimp only at hSw); (go_simp <;> with_reducible rfl)
   try simp only [Act.put, List.setIfInBounds_toArray, List.set_cons_zero, List.set_cons_succ]
   refine Held.take_ (v := ?vv689610) 10 rfl rfl (by kernel_rfl) (by kernel_rfl) (fun _ _ _ h => h) (by assumption) (Or.inl ⟨by rfl, ?hy689610⟩) ?_
   case hy689610 => intro w hSw; (try dsimp only at hSw); (go_simp <;> with_reducible rfl)
   try simp only [Act.put, List.setIfInBounds_toArray, List.set_cons_zero, List.set_cons_succ]
   refine Held.take_ (v := ?vv689611) 11 rfl rfl (by kernel_rfl) (by kernel_rfl) (fun _ _ _ h => h) (by assumption) (Or.inl ⟨by rfl, ?hy689611⟩) ?_
   case hy689611 => intro w hSw; (try dsimp only at hSw); (go_simp <;> with_reducible rfl)
   try simp only [Act.put, List.setIfInBounds_toArray, List.set_cons_zero, List.set_cons_succ]
   refine Held.take_ (v := ?vv689612) 12 rfl rfl (by kernel_rfl) (by kernel_rfl) (fun _ _ _ h => h) (by assumption) (Or.inl ⟨by rfl, ?hy689612⟩) ?_
   case hy689612 => intro w hSw; (try dsimp only at hSw); (go_simp <;> with_reducible rfl)
   try simp only [Act.put, List.setIfInBounds_toArray, List.set_cons_zero, List.set_cons_succ]
   refine Held.take_ (v := ?vv689613) 13 rfl rfl (by kernel_rfl) (by kernel_rfl) (fun _ _ _ h => h) (by assumption) (Or.inl ⟨by rfl, ?hy689613⟩) ?_
   case hy689613 => intro w hSw; (try dsimp only at hSw); (go_simp <;> with_reducible rfl)
   try simp only [Act.put, List.setIfInBounds_toArray, List.set_cons_zero, List.set_cons_succ]
   refine Held.take_ (v := ?vv689614) 14 rfl rfl (by kernel_rfl) (by kernel_rfl) (fun _ _ _ h => h) (by assumption) (Or.inl ⟨by rfl, ?hy689614⟩) ?_
   case hy689614 => intro w hSw; (try dsimp only at hSw); (go_simp <;> with_reducible rfl)
   try simp only [Act.put, List.setIfInBounds_toArray, List.set_cons_zero, List.set_cons_succ]
   refine Held.take_ (v := ?vv689615) 15 rfl rfl (by kernel_rfl) (by kernel_rfl) (fun _ _ _ h => h) (by assumption) (Or.inl ⟨by rfl, ?hy689615⟩) ?_
   case hy689615 => intro w hSw; (try dsimp only at hSw); (go_simp <;> with_reducible rfl)
   try simp only [Act.put, List.setIfInBounds_toArray, List.set_cons_zero, List.set_cons_succ]
   refine Held.take_ (v := ?vv689616) 16 rfl rfl (by kernel_rfl) (by kernel_rfl) (fun _ _ _ h => h) (by assumption) (Or.inl ⟨by rfl, ?hy689616⟩) ?_
   case hy689616 => intro w hSw; (try dsimp only at hSw); (go_simp <;> with_reducible rfl)
   try simp only [Act.put, List.setIfInBounds_toArray, List.set_cons_zero, List.set_cons_succ]
   refine Held.step_ 2 rfl rfl (by kernel_rfl) (fun K hK => ?_)
   go_simp
   go_at_call 26
   with_reducible refine (hNew.out _ (below_drew (Below.refl _ _))).mono ?_
   rintro e' w6 ⟨p, AD, cD, AH, cH, T, AY, cY, rfl, hT, hs, Bx0, _⟩
   have Bx : Below w3.heap.size w3 w6 := (below_drew (Below.refl _ w3)).trans Bx0
   clear Bx0
   have f1 := hCl.out w6 Bx
   have p5 := hs.c5
   have hTl : T.length = B.length := hT.len
   have hH := Aside0.mk (And.intro hs (And.intro hT (And.intro Bx hTl)))
   clear hs hT Bx hTl
   go_wp2_with fail
   refine hK.out _ _ f1 (fun hHeld2 => ?_)
   clear hK K
   try simp only [Act.put, List.setIfInBounds_toArray, List.set_cons_zero, List.set_cons_succ]
   refine Held.take_ (v := ?vv770803) 3 rfl rfl (by kernel_rfl) (by kernel_rfl) (fun _ _ _ h => h) (by assumption) (Or.inl ⟨by rfl, ?hy770803⟩) ?_
   case hy770803 => intro w hSw; (try dsimp only at hSw); (go_simp <;> with_reducible rfl)
   try simp only [Act.put, List.setIfInBounds_toArray, List.set_cons_zero, List.set_cons_succ]
   refine Held.take_ (v := ?vv770804) 4 rfl rfl (by kernel_rfl) (by kernel_rfl) (fun _ _ _ h => h) (by assumption) (Or.inl ⟨by rfl, ?hy770804⟩) ?_
   case hy770804 => intro w hSw; (try dsimp only at hSw); (go_simp <;> with_reducible rfl)
   try simp only [Act.put, List.setIfInBounds_toArray, List.set_cons_zero, List.set_cons_succ]
   refine Held.step_ 5 rfl rfl (by kernel_rfl) (fun K hK => ?_)
   go_simp
   refine hK.out _ _ f1 (fun hHeld3 => ?_)
   clear hK K
   try simp only [Act.put, List.setIfInBounds_toArray, List.set_cons_zero, List.set_cons_succ]
   refine Held.step_ 6 rfl rfl (by kernel_rfl) (fun K hK => ?_)
   go_simp
   go_at_call 32
   with_reducible refine (Calls.mono (max_row hH.out.1 hH.out.2.2.2 hlen.out.1 hlen.out.2) ?_)
   rintro e' w7 ⟨rfl, Bx⟩
   have f2 := hCl.out w7 (bl1 hH.out.2.2.1 Bx)
   have hB7 := Aside0.mk (bl1 hH.out.2.2.1 Bx)
   clear Bx
   go_wp2_with fail
   refine hK.out _ _ f2 (fun hHeld4 => ?_)
   clear hK K
   try simp only [Act.put, List.setIfInBounds_toArray, List.set_cons_zero, List.set_cons_succ]
   refine Held.step_ 17 rfl rfl (by kernel_rfl) (fun K hK => ?_)
   go_simp
   refine hK.out _ _ f2 (fun hHeld5 => ?_)
   clear hK K
   try simp only [Act.put, List.setIfInBounds_toArray, List.set_cons_zero, List.set_cons_succ]
   refine Held.rest_ (by kernel_rfl) ?_
   simp only [List.drop_succ_cons, List.drop_zero]
   clear hHeld hHeld2 hHeld3 hHeld4 hHeld5
   rw [hS.out.1, hS.out.2.1, hS.out.2.2.1, hS.out.2.2.2.1]
   have hm : IsMx T qv (if List.foldl mx (rd T 0) T.tail < qv then qv else List.foldl mx (rd T 0) T.tail) := by
    have h9 := mx_low (xs := T) (by have := hH.out.2.2.2; omega) qv
    rw [List.drop_one] at h9
    exact h9
   obtain ⟨r, hr⟩ : ∃ r, (if List.foldl mx (rd T 0) T.tail < qv then qv else List.foldl mx (rd T 0) T.tail) = r := ⟨_, rfl⟩
   rw [hr] at hm ⊢
   have hF : Aside0 (IsLow W R Lat B r ∧ Below w.heap.size w w7) := ⟨.inr ⟨hX.out.2.2, hlen.out.2, T, hH.out.2.1, by rw [hS.out.2.2.2.2]; exact hm⟩, bl1 B3'.out hB7.out⟩
   clear hm hr hS hH hNew hlen hCl hX B3' hB7 f1 f2 p5 a0 a1 a2 d0 d1 d2 d3 d4 d5 d6
   go_wp2
   go_ret
   exact ⟨r, rfl, hF.out⟩
end
end Go.Proofs.YtjacphcbiaacnaaDoor
end

section
set_option linter.unusedVariables false
set_option linter.unusedSimpArgs false
set_option linter.unusedSectionVars false
namespace Go.Proofs.YtjacphcbiaacnaaDoor
open Go.RowKit Go.Proofs.YtjacphcbiaacnaaDoorW.PrintWords Go.Proofs.YtjacphcbiaacnaaDoorW.PrintMore Go.Proofs.YtjacphcbiaacnaaDoor.PDigraphTells Sc
end Go.Proofs.YtjacphcbiaacnaaDoor
end

section
set_option linter.unusedVariables false
set_option linter.unusedSimpArgs false
namespace Go.Proofs.YtjacphcbiaacnaaDoor
open Go.RowKit Go.Proofs.YtjacphcbiaacnaaDoorW.PrintWords Go.Proofs.YtjacphcbiaacnaaDoorW.PrintMore Go.Proofs.YtjacphcbiaacnaaDoor.PDigraphTells Sc
def exB : List S48 := [⟨1, 3, 0, [], 1, 0, 0, false⟩, ⟨1, 3, 1, [], 2, 0, 0, false⟩, ⟨5, 3, 2, [0, 1], 0, 0, 0, false⟩]
theorem ex_sml : sml exB := ⟨by decide, fun i hi => by
 have hi : i < 3 := hi
 rcases i with _ | _ | _ | i
 ·decide
 ·decide
 ·decide
 ·omega⟩
theorem ex_valid : validB 2 8 [] = true := by decide
theorem ex_dep : depL exB = [[], [], [0, 1]] := by decide
theorem ex_hp : Hp (insS 2 [] exB) [2, 2, 1] 0 := by
 refine ⟨rfl, fun i _ hi => ?_, fun i _ hi => ?_, fun i k _ h1 h2 h3 => ?_⟩
 ·have hi : i < 3 := hi
  rcases i with _ | _ | _ | i
  ·exact .inr ⟨2, by decide, by decide, by decide, by decide⟩
  ·exact .inr ⟨2, by decide, by decide, by decide, by decide⟩
  ·exact .inl (by decide)
  ·omega
 ·have hi : i < 3 := hi
  rcases i with _ | _ | _ | i
  ·decide
  ·decide
  ·decide
  ·omega
 ·have h2 : k < 3 := h2
  rcases k with _ | _ | _ | k
  ·omega
  ·have e : i = 0 := by omega
   subst e
   exact absurd h3 (by decide)
  ·rcases i with _ | _ | i
   ·decide
   ·decide
   ·omega
  ·omega
theorem ex_fin : Fin (insS 2 [] exB) [2, 2, 1] (run (insS 2 [] exB) (fun i => rd [2, 2, 1] (i : Int)) 3 0 st0) := ⟨ex_hp, ⟨3, by decide, rfl⟩, by decide⟩
theorem ex_isB : IsB 2 8 [] exB [0, 1, 2] [0, 0, 1] := .inr ⟨ex_valid, _, _, ex_fin, by decide, by decide⟩
theorem ex_low : IsLow 2 8 [] exB 2 := .inr ⟨ex_valid, by decide, _, ex_hp, .inl (by decide), by decide, by decide⟩
theorem ex_len : lenF [] exB [0, 1, 2] [0, 0, 1] 0 = 2 := by decide
end Go.Proofs.YtjacphcbiaacnaaDoor
end

section
set_option linter.unusedVariables false
set_option linter.unusedSimpArgs false
namespace Go.Proofs.YtjacphcbiaacnaaDoor
open Go.RowKit Go.Proofs.YtjacphcbiaacnaaDoorW.PrintWords Go.Proofs.YtjacphcbiaacnaaDoorW.PrintMore Go.Proofs.YtjacphcbiaacnaaDoor.PDigraphTells Mem Sc
theorem rr_ints {w : World} {g : Nat} {xs : List Int} {t : Nat} (h : w.heap[g]? = some (.cells (xs.map (Value.int .i64)).toArray t (0, 0))) (hl : xs.length ≤ 1000) : Kd.C (Kd.int .i64) w (some ⟨g, 0, none⟩) xs.length xs := by
 refine ⟨rfl, Nat.le_trans hl (by decide), fun _ => ⟨_, rfl, fun j q hj => ⟨[.int .i64 q], rfl, rfl, fun i u hu => ?_⟩⟩⟩
 rcases i with _ | i
 ·obtain rfl : Value.int .i64 q = u := by simpa using hu
  show w.cell? ((⟨g, 0, none⟩ : Addr).add (j * 1 + 0)) = _
  rw [addz]
  refine cell_at h ?_
  simp [hj]
 ·simp at hu
theorem ex_rows {w : World} {g0 g1 : Nat} (h0 : w.heap[g0]? = some (.cells #[.int .i64 0, .int .i64 1] 3 (0, 0)))
  (h1 : w.heap[g1]? = some (.cells #[.int .i64 1, .int .i64 3, .int .i64 0, .slice none 0 0, .int .i64 1, .int .i64 0, .int .i64 0, .bool false, .int .i64 1, .int .i64 3, .int .i64 1, .slice none 0 0, .int .i64 2, .int .i64 0, .int .i64 0, .bool false, .int .i64 5, .int .i64 3, .int .i64 2, .slice (some ⟨g0, 0, none⟩) 2 2, .int .i64 0, .int .i64 0, .int .i64 0, .bool false] 48 (0, 0))) :
  Kd.C k48 w (some ⟨g1, 0, none⟩) 3 exB := by
 have hr : Kd.C (Kd.int .i64) w (some ⟨g0, 0, none⟩) 2 [0, 1] := rr_ints (xs := [0, 1]) h0 (by decide)
 have key : ∀ (m : Nat) (u : Value), (#[Value.int .i64 1, .int .i64 3, .int .i64 0, .slice none 0 0, .int .i64 1, .int .i64 0, .int .i64 0, .bool false, .int .i64 1, .int .i64 3, .int .i64 1, .slice none 0 0, .int .i64 2, .int .i64 0, .int .i64 0, .bool false, .int .i64 5, .int .i64 3, .int .i64 2, .slice (some ⟨g0, 0, none⟩) 2 2, .int .i64 0, .int .i64 0, .int .i64 0, .bool false] : Array Value)[m]? = some u → w.cell? ((⟨g1, 0, none⟩ : Addr).add m) = some u := fun m u hu => by
  rw [addz]; exact cell_at h1 hu
 clear h0 h1
 refine ⟨rfl, by decide, fun _ => ⟨_, rfl, fun j q hj => ?_⟩⟩
 rcases j with _ | _ | _ | j
 ·obtain rfl : (⟨1, 3, 0, [], 1, 0, 0, false⟩ : S48) = q := by simpa [exB] using hj
  refine ⟨_, rfl, k48_mk w ⟨1, 3, 0, [], 1, 0, 0, false⟩ (A3 := none) (c3 := 0) (Nat.le_refl _) (Kd.C_nil _ _), fun i u hu => key (0 * 8 + i) u ?_⟩
  rcases i with _ | _ | _ | _ | _ | _ | _ | _ | i <;> first | exact hu | simp at hu
 ·obtain rfl : (⟨1, 3, 1, [], 2, 0, 0, false⟩ : S48) = q := by simpa [exB] using hj
  refine ⟨_, rfl, k48_mk w ⟨1, 3, 1, [], 2, 0, 0, false⟩ (A3 := none) (c3 := 0) (Nat.le_refl _) (Kd.C_nil _ _), fun i u hu => key (1 * 8 + i) u ?_⟩
  rcases i with _ | _ | _ | _ | _ | _ | _ | _ | i <;> first | exact hu | simp at hu
 ·obtain rfl : (⟨5, 3, 2, [0, 1], 0, 0, 0, false⟩ : S48) = q := by simpa [exB] using hj
  refine ⟨_, rfl, k48_mk w ⟨5, 3, 2, [0, 1], 0, 0, 0, false⟩ (A3 := some ⟨g0, 0, none⟩) (c3 := 2) (Nat.le_refl _) hr, fun i u hu => key (2 * 8 + i) u ?_⟩
  rcases i with _ | _ | _ | _ | _ | _ | _ | _ | i <;> first | exact hu | simp at hu
 ·simp [exB] at hj
theorem ex_bk {w : World} {A : Option Addr} (h : Kd.C k48 w A 3 exB) : Bk w none 0 [] none 0 [] A 3 exB none 0 [] none 0 [] none 0 [] :=
 ⟨Kd.C_nil _ _, Nat.le_refl _, Kd.C_nil _ _, Nat.le_refl _, h, Nat.le_refl _, Kd.C_nil _ _, Nat.le_refl _, Kd.C_nil _ _, Nat.le_refl _, Kd.C_nil _ _, Nat.le_refl _⟩
end Go.Proofs.YtjacphcbiaacnaaDoor
end

section
namespace Go.Proofs.YtjacphcbiaacnaaDoor.PDigraphTells
open Go.RowKit Go.Proofs.YtjacphcbiaacnaaDoorW.PrintWords Go.Proofs.YtjacphcbiaacnaaDoorW.PrintLast Go.Proofs.YtjacphcbiaacnaaDoorW.PrintMore
attribute [local go_sem] max2_int min2_int max_two min_two max_three min_three max_four min_four
set_option linter.unusedVariables false
set_option linter.unusedSimpArgs false
def slices_Equal_int_int.l0 : Nat → List Int → List Int → Int → Int → Option (Bool)
 | 0, _, _, _, _ => none
 | k + 1, x0, x1, x12, x13 => if x13 < x12 then (if 0 ≤ x13 then (if x13 < (x0.length : Int) then (if x13 < (x1.length : Int) then (if (rd x0 x13) = (rd x1 x13) then (slices_Equal_int_int.l0 k x0 x1 x12 (wrap64 (x13 + 1))) else (some false)) else (none)) else (none)) else (none)) else (some true)
def slices_Equal_int_int.f (k : Nat) (l0 : List Int) (l1 : List Int) : Option (Bool) := if (l0.length : Int) = (l1.length : Int) then (slices_Equal_int_int.l0 k l0 l1 (l0.length : Int) 0) else (some false)
set_option maxHeartbeats 8000000 in
set_option maxRecDepth 100000 in
theorem slices_Equal_int_int.calls (k : Nat) (A0 : Option Addr) (c0 : Nat) (l0 : List Int) (A1 : Option Addr) (c1 : Nat) (l1 : List Int) (r : Bool) (w : World) (hr0 : Kd.C (Kd.int .i64) w A0 l0.length l0) (hc0 : l0.length ≤ c0) (hr1 : Kd.C (Kd.int .i64) w A1 l1.length l1) (hc1 : l1.length ≤ c1) (h : slices_Equal_int_int.f k l0 l1 = some r) :
  Calls Tryd.prog 12 #[.slice A0 l0.length c0, .slice A1 l1.length c1] w fun e w' => e = .returned (.bool r) ∧ Drawn0 w w' := by
 have HR0 := Aside0.mk hr0
 have HC0 := Aside0.mk hc0
 clear hr0 hc0
 have HR1 := Aside0.mk hr1
 have HC1 := Aside0.mk hc1
 clear hr1 hc1
 have H : (if (l0.length : Int) = (l1.length : Int) then (slices_Equal_int_int.l0 k l0 l1 (l0.length : Int) 0) else (some false)) = some r := h
 clear h
 by_cases c3 : (l0.length : Int) = (l1.length : Int)
 ·rw [if_pos c3] at H
  have c3b0 : ((l0.length : Int) == (l1.length : Int)) = true := beq_iff_eq.mpr c3
  have c3b1 : ((l0.length : Int) != (l1.length : Int)) = false := bne_eq_false_iff_eq.mpr c3
  have c3b2 : (l0.length == l1.length) = true := by first | simpa using c3 | (simp at c3 ⊢; omega)
  clear c3
  have H' := Aside0.mk H
  clear H
  go_enter Tryd.func12, Tryd.ntmps12
  go_wp2
  repeat (go_quiet (fail); try go_wp2)
  go_loopg [13] k (fun kq v13 w' => ∃ (x13_1 : Int), v13 = .int .i64 x13_1 ∧ Aside0 (slices_Equal_int_int.l0 kq l0 l1 (l0.length : Int) x13_1 = some r) ∧ Aside0 (kq ≤ k) ∧ Drawn0 w w')
  case atStart => exact ⟨(0), (by first | rfl | (simp; done) | (simp [*]; done)), H', ⟨Nat.le_refl _⟩, by repeat (first | exact Drawn0.refl _ | apply Drawn0.step)⟩
  case round =>
   clear H'
   try clear c1
   try clear p2
   try clear c3
   try clear c3b0
   try clear c3b1
   try clear c3b2
   obtain ⟨x13_1, rfl, HA, HK1, ⟨m1, rfl⟩⟩ := hrel
   cases gk with
   | zero => exact absurd HA.out (by simp [slices_Equal_int_int.l0])
   | succ k1 =>
    have H := HA.out
    clear HA
    simp only [slices_Equal_int_int.l0] at H
    by_cases c4 : x13_1 < (l0.length : Int)
    ·rw [if_pos c4] at H
     have c4b0 : decide (x13_1 < (l0.length : Int)) = true := decide_eq_true c4
     clear c4
     by_cases c5 : 0 ≤ x13_1
     ·rw [if_pos c5] at H
      have c5b0 : decide (0 ≤ x13_1) = true := decide_eq_true c5
      clear c5
      by_cases c6 : x13_1 < (l0.length : Int)
      ·rw [if_pos c6] at H
       have c6b0 : decide (x13_1 < (l0.length : Int)) = true := decide_eq_true c6
       clear c6
       by_cases c7 : x13_1 < (l1.length : Int)
       ·rw [if_pos c7] at H
        have c7b0 : decide (x13_1 < (l1.length : Int)) = true := decide_eq_true c7
        clear c7
        by_cases c8 : (rd l0 x13_1) = (rd l1 x13_1)
        ·rw [if_pos c8] at H
         have c8b0 : ((rd l0 x13_1) == (rd l1 x13_1)) = true := beq_iff_eq.mpr c8
         have c8b1 : ((rd l0 x13_1) != (rd l1 x13_1)) = false := bne_eq_false_iff_eq.mpr c8
         clear c8
         have H' := Aside0.mk H
         clear H
         have p168 : 0 ≤ (x13_1 : Int) := of_decide_eq_true (by first | (with_reducible assumption) | assumption)
         have q168 : x13_1 < (l0.length : Int) := of_decide_eq_true (by first | (with_reducible assumption) | assumption)
         obtain ⟨ad168, e168, hx168_0⟩ := Kd.at_int HR0.out x13_1 p168 q168
         cases e168
         replace p168 := eq_true p168
         replace q168 := eq_true q168
         have p169 : 0 ≤ (x13_1 : Int) := of_decide_eq_true (by first | (with_reducible assumption) | assumption)
         have q169 : x13_1 < (l1.length : Int) := of_decide_eq_true (by first | (with_reducible assumption) | assumption)
         obtain ⟨ad169, e169, hx169_0⟩ := Kd.at_int HR1.out x13_1 p169 q169
         cases e169
         replace p169 := eq_true p169
         replace q169 := eq_true q169
         go_wp2
         repeat (go_quiet (fail); try go_wp2)
         go_roundg k1
         case measure => have := HK1.out; omega
         case rel => exact ⟨(wrap64 (x13_1 + 1)), (by first | rfl | (simp; done) | (simp [*]; done)), H', ⟨by have := HK1.out; omega⟩, by repeat (first | exact Drawn0.refl _ | apply Drawn0.step)⟩
        ·rw [if_neg c8] at H
         have c8b0 : ((rd l0 x13_1) == (rd l1 x13_1)) = false := beq_eq_false_iff_ne.mpr c8
         have c8b1 : ((rd l0 x13_1) != (rd l1 x13_1)) = true := bne_iff_ne.mpr c8
         obtain rfl := Option.some.inj H
         have p168 : 0 ≤ (x13_1 : Int) := of_decide_eq_true (by first | (with_reducible assumption) | assumption)
         have q168 : x13_1 < (l0.length : Int) := of_decide_eq_true (by first | (with_reducible assumption) | assumption)
         obtain ⟨ad168, e168, hx168_0⟩ := Kd.at_int HR0.out x13_1 p168 q168
         cases e168
         replace p168 := eq_true p168
         replace q168 := eq_true q168
         have p169 : 0 ≤ (x13_1 : Int) := of_decide_eq_true (by first | (with_reducible assumption) | assumption)
         have q169 : x13_1 < (l1.length : Int) := of_decide_eq_true (by first | (with_reducible assumption) | assumption)
         obtain ⟨ad169, e169, hx169_0⟩ := Kd.at_int HR1.out x13_1 p169 q169
         cases e169
         replace p169 := eq_true p169
         replace q169 := eq_true q169
         go_wp2
         repeat (go_quiet (fail); try go_wp2)
         go_ret
         exact ⟨by first | rfl | (simp; done) | (simp [*]; done), by repeat (first | exact Drawn0.refl _ | apply Drawn0.step)⟩
       ·rw [if_neg c7] at H
        exact absurd H (by simp)
      ·rw [if_neg c6] at H
       exact absurd H (by simp)
     ·rw [if_neg c5] at H
      exact absurd H (by simp)
    ·rw [if_neg c4] at H
     have c4b0 : decide (x13_1 < (l0.length : Int)) = false := decide_eq_false c4
     clear c4
     obtain rfl := Option.some.inj H
     go_wp2
     repeat (go_quiet (fail); try go_wp2)
     go_ret
     exact ⟨by first | rfl | (simp; done) | (simp [*]; done), by repeat (first | exact Drawn0.refl _ | apply Drawn0.step)⟩
 ·rw [if_neg c3] at H
  have c3b0 : ((l0.length : Int) == (l1.length : Int)) = false := beq_eq_false_iff_ne.mpr c3
  have c3b1 : ((l0.length : Int) != (l1.length : Int)) = true := bne_iff_ne.mpr c3
  have c3b2 : (l0.length == l1.length) = false := by first | simpa using c3 | (simp at c3 ⊢; omega)
  obtain rfl := Option.some.inj H
  go_enter Tryd.func12, Tryd.ntmps12
  go_wp2
  repeat (go_quiet (fail); try go_wp2)
  go_ret
  exact ⟨by first | rfl | (simp; done) | (simp [*]; done), by repeat (first | exact Drawn0.refl _ | apply Drawn0.step)⟩
end Go.Proofs.YtjacphcbiaacnaaDoor.PDigraphTells
end

section
set_option linter.unusedVariables false
set_option linter.unusedSimpArgs false
namespace Go.Proofs.YtjacphcbiaacnaaDoor
open Go.RowKit Go.Proofs.YtjacphcbiaacnaaDoorW.PrintWords Go.Proofs.YtjacphcbiaacnaaDoorW.PrintMore Go.Proofs.YtjacphcbiaacnaaDoor.PDigraphTells Mem Sc
theorem same_lit {A : Option Addr} {c n : Nat} {x : List Int} {w : World} (hA : Kd.C (Kd.int .i64) w A n x) (hc : n ≤ c) (hn : x.length = n) (cs : Array Value) (hcs : (x.map (Value.int .i64)).toArray = cs) (hl : x.length ≤ 1000) (hf : slices_Equal_int_int.f 10 x x = some true) :
  Calls Tryd.prog 12 #[.slice A n c, .slice (some ⟨w.heap.size, 0, none⟩) n n] (w.alloc (.cells cs 3)) fun e w' => e = .returned (.bool true) ∧ Below w.heap.size w w' := by
 subst hn hcs
 refine (slices_Equal_int_int.calls 10 A c x (some ⟨w.heap.size, 0, none⟩) x.length x true _ (Kd.C_alloc hA _) hc (rr_ints (heap_alloc_new w _) hl) (Nat.le_refl _) hf).mono ?_
 rintro e w1 ⟨rfl, ⟨m, rfl⟩⟩
 exact ⟨rfl, pw_below_drewN (below_alloc (Below.refl _ w) _) _⟩
def EX (gb : Nat) (w w' : World) : Prop := Below w.heap.size w w' ∧ Kd.C k48 w' (some ⟨gb + 1, 0, none⟩) 3 exB ∧ w'.heap[gb + 2]? = some (.cells #[.slice none 0 0, .slice (some ⟨gb + 1, 0, none⟩) 3 3, .int .i64 0, .slice none 0 0, .slice none 0 0, .slice none 0 0, .int .i64 0] 31 (0, 0)) ∧ w'.heap[gb + 3]? = some (.cells #[.int .i64 2, .int .i64 8, .slice none 0 0] 24 (0, 0))
theorem EX.below {gb : Nat} {w w1 w2 : World} (h : EX gb w w1) (hb : Below w1.heap.size w1 w2) : EX gb w w2 :=
 ⟨bl1 h.1 hb, Kd.C_below h.2.1 hb, (hb.block _ (blk_lt' h.2.2.1)).trans h.2.2.1, (hb.block _ (blk_lt' h.2.2.2)).trans h.2.2.2⟩
theorem EX.cells {gb : Nat} {w w' : World} (h : EX gb w w') : w'.cell? ⟨gb + 3, 0, none⟩ = some (.int .i64 2) ∧ w'.cell? ⟨gb + 3, 1, none⟩ = some (.int .i64 8) ∧ w'.cell? ⟨gb + 3, 2, none⟩ = some (.slice none 0 0) ∧ w'.cell? ⟨gb + 2, 0, none⟩ = some (.slice none 0 0) ∧ w'.cell? ⟨gb + 2, 1, none⟩ = some (.slice (some ⟨gb + 1, 0, none⟩) 3 3) ∧ w'.cell? ⟨gb + 2, 2, none⟩ = some (.int .i64 0) ∧ w'.cell? ⟨gb + 2, 3, none⟩ = some (.slice none 0 0) ∧ w'.cell? ⟨gb + 2, 4, none⟩ = some (.slice none 0 0) ∧ w'.cell? ⟨gb + 2, 5, none⟩ = some (.slice none 0 0) ∧ w'.cell? ⟨gb + 2, 6, none⟩ = some (.int .i64 0) :=
 ⟨cell_at h.2.2.2 rfl, cell_at h.2.2.2 rfl, cell_at h.2.2.2 rfl, cell_at h.2.2.1 rfl, cell_at h.2.2.1 rfl, cell_at h.2.2.1 rfl, cell_at h.2.2.1 rfl, cell_at h.2.2.1 rfl, cell_at h.2.2.1 rfl, cell_at h.2.2.1 rfl⟩
theorem ex_mk (w : World) {gb : Nat} (hgb : w.heap.size = gb) : EX gb w ((((w.alloc (.cells #[.int .i64 0, .int .i64 1] 3)).alloc (.cells #[.int .i64 1, .int .i64 3, .int .i64 0, .slice none 0 0, .int .i64 1, .int .i64 0, .int .i64 0, .bool false, .int .i64 1, .int .i64 3, .int .i64 1, .slice none 0 0, .int .i64 2, .int .i64 0, .int .i64 0, .bool false, .int .i64 5, .int .i64 3, .int .i64 2, .slice (some ⟨gb, 0, none⟩) 2 2, .int .i64 0, .int .i64 0, .int .i64 0, .bool false] 48)).alloc (.cells #[.slice none 0 0, .slice (some ⟨gb + 1, 0, none⟩) 3 3, .int .i64 0, .slice none 0 0, .slice none 0 0, .slice none 0 0, .int .i64 0] 31)).alloc (.cells #[.int .i64 2, .int .i64 8, .slice none 0 0] 24)) := by
 obtain ⟨w1, h1⟩ : ∃ w1, w.alloc (.cells #[.int .i64 0, .int .i64 1] 3) = w1 := ⟨_, rfl⟩
 have e1 : w1.heap[gb]? = some (.cells #[.int .i64 0, .int .i64 1] 3 (0, 0)) := by rw [← h1, ← hgb]; exact heap_alloc_new w _
 have s1 : w1.heap.size = gb + 1 := by rw [← h1]; simp [hgb]
 have b1 : Below w.heap.size w w1 := by rw [← h1]; exact below_alloc (Below.refl _ w) _
 rw [h1]
 obtain ⟨w2, h2⟩ : ∃ w2, w1.alloc (.cells #[.int .i64 1, .int .i64 3, .int .i64 0, .slice none 0 0, .int .i64 1, .int .i64 0, .int .i64 0, .bool false, .int .i64 1, .int .i64 3, .int .i64 1, .slice none 0 0, .int .i64 2, .int .i64 0, .int .i64 0, .bool false, .int .i64 5, .int .i64 3, .int .i64 2, .slice (some ⟨gb, 0, none⟩) 2 2, .int .i64 0, .int .i64 0, .int .i64 0, .bool false] 48) = w2 := ⟨_, rfl⟩
 have b2 : Below w1.heap.size w1 w2 := by rw [← h2]; exact below_alloc (Below.refl _ w1) _
 have e2 := ex_rows (w := w2) (g0 := gb) (g1 := gb + 1) ((b2.block _ (blk_lt' e1)).trans e1) (by rw [← h2, ← s1]; exact heap_alloc_new w1 _)
 have s2 : w2.heap.size = gb + 2 := by rw [← h2]; simp [s1]
 rw [h2]
 obtain ⟨w3, h3⟩ : ∃ w3, w2.alloc (.cells #[.slice none 0 0, .slice (some ⟨gb + 1, 0, none⟩) 3 3, .int .i64 0, .slice none 0 0, .slice none 0 0, .slice none 0 0, .int .i64 0] 31) = w3 := ⟨_, rfl⟩
 have b3 : Below w2.heap.size w2 w3 := by rw [← h3]; exact below_alloc (Below.refl _ w2) _
 have s3 : w3.heap.size = gb + 3 := by rw [← h3]; simp [s2]
 have e3 : w3.heap[gb + 2]? = some (.cells #[.slice none 0 0, .slice (some ⟨gb + 1, 0, none⟩) 3 3, .int .i64 0, .slice none 0 0, .slice none 0 0, .slice none 0 0, .int .i64 0] 31 (0, 0)) := by rw [← h3, ← s2]; exact heap_alloc_new w2 _
 rw [h3]
 have b4 : Below w3.heap.size w3 (w3.alloc (.cells #[.int .i64 2, .int .i64 8, .slice none 0 0] 24)) := below_alloc (Below.refl _ w3) _
 exact ⟨bl1 (bl1 (bl1 b1 b2) b3) b4, Kd.C_below (Kd.C_below e2 b3) b4, (b4.block _ (blk_lt' e3)).trans e3, by rw [← s3]; exact heap_alloc_new w3 _⟩
theorem ex_mk2 (w : World) {gb : Nat} (hgb : w.heap.size = gb) : ∃ w1, ((((w.alloc (.cells #[.int .i64 0, .int .i64 1] 3)).alloc (.cells #[.int .i64 1, .int .i64 3, .int .i64 0, .slice none 0 0, .int .i64 1, .int .i64 0, .int .i64 0, .bool false, .int .i64 1, .int .i64 3, .int .i64 1, .slice none 0 0, .int .i64 2, .int .i64 0, .int .i64 0, .bool false, .int .i64 5, .int .i64 3, .int .i64 2, .slice (some ⟨gb, 0, none⟩) 2 2, .int .i64 0, .int .i64 0, .int .i64 0, .bool false] 48)).alloc (.cells #[.slice none 0 0, .slice (some ⟨gb + 1, 0, none⟩) 3 3, .int .i64 0, .slice none 0 0, .slice none 0 0, .slice none 0 0, .int .i64 0] 31)).alloc (.cells #[.int .i64 2, .int .i64 8, .slice none 0 0] 24)) = w1 ∧ EX gb w w1 := ⟨_, rfl, ex_mk w hgb⟩
set_option maxRecDepth 100000 in
set_option maxHeartbeats 4000000 in
theorem awake_any (w : World) (hDN : DN w) : Calls Tryd.prog 8 #[] w fun e w' => e = .returned (.bool true) ∧ Below w.heap.size w w' := by
 have h0 : 0 < w.heap.size := hDN.pos
 have hD := Aside0.mk (fun (W1 : World) (hb : Below w.heap.size w W1) => hDN.below hb h0)
 clear hDN h0
 go_enter Tryd.func8, Tryd.ntmps8
 go_wp2_with fail
 obtain ⟨gb, hgb⟩ : ∃ gb, w.heap.size = gb := ⟨_, rfl⟩
 obtain ⟨w1, hw1, hE⟩ := ex_mk2 w hgb
 rw [hgb, hw1]
 rw [show gb + 1 + 1 + 1 = gb + 3 from rfl, show gb + 1 + 1 = gb + 2 from rfl]
 clear hw1 hgb
 replace hE := Aside0.mk hE
 refine (block_any (W := 2) (R := 8) (ex_bk hE.out.2.1) ex_sml (by decide) (hD.out _ hE.out.1)).mono ?_
 rintro e w2 ⟨vo, vy, o, y, rfl, hIs, r1, r2, B2⟩
 obtain ⟨rfl, rfl⟩ := hIs.uniq ex_isB
 obtain ⟨Ao, co, ev, ho, Co⟩ := Kd.R_reads r1
 subst ev
 obtain ⟨Ay, cy, ev, hy, Cy⟩ := Kd.R_reads r2
 subst ev
 have H2 := Aside0.mk (And.intro (hE.out.below B2) (And.intro ho (And.intro Co (And.intro hy Cy))))
 clear hIs r1 r2 B2 ho Co hy Cy hE
 obtain ⟨a0, a1, a2, d0, d1, d2, d3, d4, d5, d6⟩ := H2.out.1.cells
 go_wp2_with fail
 refine (deps_any (ex_bk H2.out.1.2.1) ex_sml 0 0).mono ?_
 rintro e w3 ⟨v, rfl, Rx, B3⟩
 obtain ⟨AD, cD, rfl, hDg⟩ := Dg.of Rx (show (depL exB).length = 3 by rw [ex_dep]; rfl)
 rw [ex_dep] at hDg
 obtain ⟨gD, eD, _⟩ := dg_form hDg (by decide)
 subst eD
 have H3 := Aside0.mk (And.intro (H2.out.1.below B3) (And.intro H2.out.2.1 (And.intro (Kd.C_below H2.out.2.2.1 B3) (And.intro H2.out.2.2.2.1 (And.intro (Kd.C_below H2.out.2.2.2.2 B3) (And.intro hDg.reads hDg.2.1))))))
 clear Rx B3 hDg H2 a0 a1 a2 d0 d1 d2 d3 d4 d5 d6
 obtain ⟨a0, a1, a2, d0, d1, d2, d3, d4, d5, d6⟩ := H3.out.1.cells
 go_wp2_with fail
 refine (same_lit H3.out.2.2.1 H3.out.2.1 rfl _ rfl (by decide) (by decide +kernel)).mono ?_
 rintro e w4 ⟨rfl, B4⟩
 have H4 := Aside0.mk (And.intro (H3.out.1.below B4) (And.intro H3.out.2.2.2.1 (And.intro (Kd.C_below H3.out.2.2.2.2.1 B4) (And.intro (Kd.C_below H3.out.2.2.2.2.2.1 B4) H3.out.2.2.2.2.2.2))))
 clear B4 H3 a0 a1 a2 d0 d1 d2 d3 d4 d5 d6
 go_wp2_with fail
 refine (same_lit H4.out.2.2.1 H4.out.2.1 rfl _ rfl (by decide) (by decide +kernel)).mono ?_
 rintro e w5 ⟨rfl, B5⟩
 have H5 := Aside0.mk (And.intro (H4.out.1.below B5) (And.intro (Kd.C_below H4.out.2.2.2.1 B5) H4.out.2.2.2.2))
 clear B5 H4
 obtain ⟨a0, a1, a2, d0, d1, d2, d3, d4, d5, d6⟩ := H5.out.1.cells
 go_wp2_with fail
 refine (len_any (W := 2) (R := 8) (ex_bk H5.out.1.2.1) ex_sml (by decide) (hD.out _ H5.out.1.1)).mono ?_
 rintro e w6 ⟨o, y, rfl, hIs, B6⟩
 obtain ⟨rfl, rfl⟩ := hIs.uniq ex_isB
 rw [ex_len]
 have H6 := Aside0.mk (And.intro (H5.out.1.below B6) (And.intro (Kd.C_below H5.out.2.1 B6) H5.out.2.2))
 clear hIs B6 H5 a0 a1 a2 d0 d1 d2 d3 d4 d5 d6
 obtain ⟨a0, a1, a2, d0, d1, d2, d3, d4, d5, d6⟩ := H6.out.1.cells
 go_wp2_with fail
 refine (low_any (W := 2) (R := 8) (ex_bk H6.out.1.2.1) ex_sml (by decide)).mono ?_
 rintro e w7 ⟨r, rfl, hLo, B7⟩
 obtain rfl := hLo.uniq ex_low
 obtain ⟨ad, A2, c2, eA, x2, hl2, C2⟩ := at_L1 (Kd.C_below H6.out.2.1 B7) (2 : Int) (by decide) (by decide)
 injection eA with eA
 subst eA
 obtain ⟨ad', A1, c1, eA, x1, hl1, C1⟩ := at_L1 (Kd.C_below H6.out.2.1 B7) (1 : Int) (by decide) (by decide)
 injection eA with eA
 subst eA
 have x2' : w7.cell? ⟨gD, 2, none⟩ = some (.slice A2 2 c2) := x2
 have x1' : w7.cell? ⟨gD, 1, none⟩ = some (.slice A1 0 c1) := x1
 have C2' : Kd.C (Kd.int .i64) w7 A2 2 [0, 1] := C2
 have H7 := Aside0.mk (And.intro (H6.out.1.below B7) (And.intro C2' (And.intro (show 2 ≤ c2 from hl2) x1')))
 clear hLo B7 H6 a0 a1 a2 d0 d1 d2 d3 d4 d5 d6 x1 x2 C1 C2 hl1 hl2 C2' x1'
 go_wp2_with fail
 refine (same_lit H7.out.2.1 H7.out.2.2.1 rfl _ rfl (by decide) (by decide +kernel)).mono ?_
 rintro e w8 ⟨rfl, B8⟩
 have x1 := (Below.cell B8 (World.block_lt_of_cell? _ _ H7.out.2.2.2)).trans H7.out.2.2.2
 have hF := Aside0.mk (H7.out.1.below B8).1
 clear B8 H7 x2'
 go_wp2
 go_ret
 exact ⟨rfl, hF.out⟩
end Go.Proofs.YtjacphcbiaacnaaDoor
end

section
set_option linter.unusedVariables false
set_option linter.unusedSimpArgs false
set_option linter.unusedSectionVars false
namespace Go.Proofs.YtjacphcbiaacnaaDoor
open Go.RowKit Go.Proofs.YtjacphcbiaacnaaDoorW.PrintWords Go.Proofs.YtjacphcbiaacnaaDoorW.PrintMore Go.Proofs.YtjacphcbiaacnaaDoor.PDigraphTells Mem Sc
section
variable {w w' : World} {W R : Int} {AL : Option Addr} {cL : Nat} {Lat : List Int} {AP : Option Addr} {cP : Nat} {P : List Int} {AI : Option Addr} {cI : Nat} {B : List S48} {A3 : Option Addr} {c3 : Nat} {t1 : List Int} {A4 : Option Addr} {c4 : Nat} {t2 : List Int} {A5 : Option Addr} {c5 : Nat} {t3 : List S98} {t0 t4 : Int}
theorem rblock_any (h : Bk w AL cL Lat AP cP P AI cI B A3 c3 t1 A4 c4 t2 A5 c5 t3) (hB : sml B) (hLl : Lat.length < 1000000000) :
  Calls Tryd.prog 10 #[.agg #[.int .i64 W, .int .i64 R, .slice AL Lat.length cL], .agg #[.slice AP P.length cP, .slice AI B.length cI, .int .i64 t0, .slice A3 t1.length c3, .slice A4 t2.length c4, .slice A5 t3.length c5, .int .i64 t4]] w (BS w W R Lat B) := by
 obtain ⟨o, y, hr, hi⟩ := rblock_f W R Lat P B t0 t1 t2 t3 t4 hB hLl
 obtain ⟨k, hk⟩ := hr.get
 refine (burnishref52_Block.calls k W R AL cL Lat AP cP P AI cI B t0 A3 c3 t1 A4 c4 t2 A5 c5 t3 t4 _ _ w h.rL h.hL h.rP h.hP h.rI h.hI h.r1 h.h1 h.r2 h.h2 h.r3 h.h3 hk).mono ?_
 rintro e w' ⟨vo, vy, rfl, r1, r2, hb⟩
 exact ⟨vo, vy, o, y, rfl, hi, Kd.R_mono (Kd.R_lower (Kd.R_bound r1) (Nat.zero_le _)) (fun k hk => hk.2.1), Kd.R_mono (Kd.R_lower (Kd.R_bound r2) (Nat.zero_le _)) (fun k hk => hk.2.1), hb⟩
end
end Go.Proofs.YtjacphcbiaacnaaDoor
end

section
set_option linter.unusedVariables false
set_option linter.unusedSimpArgs false
set_option linter.unusedSectionVars false
namespace Go.Proofs.YtjacphcbiaacnaaDoor
open Go.RowKit Go.Proofs.YtjacphcbiaacnaaDoorW.PrintWords Go.Proofs.YtjacphcbiaacnaaDoorW.PrintMore Go.Proofs.YtjacphcbiaacnaaDoorW.PrintLast Go.Proofs.YtjacphcbiaacnaaDoor.PDigraphTells Mem Sc
theorem blk2 (w : World) (o o2 : Obj) : ((w.alloc o).alloc o2).heap[w.heap.size + 1]? = some o2 := by
 have := heap_alloc_new (w.alloc o) o2
 rwa [show (w.alloc o).heap.size = w.heap.size + 1 by simp] at this
set_option maxRecDepth 100000 in
set_option maxHeartbeats 2000000 in
theorem model_any (W R : Int) (A : Option Addr) (n c : Nat) (w : World) : Calls Tryd.prog 11 #[.agg #[.int .i64 W, .int .i64 R, .slice A n c]] w fun e w' => e = .returned (.agg #[.int .i64 W, .int .i64 R, .slice A n c]) ∧ Below w.heap.size w w' := by
 have hF : ∀ o m, Below w.heap.size w ((w.alloc o).drewN m) := fun o m => pw_below_drewN (below_alloc (Below.refl _ w) _) _
 have hG : ∀ o, Below w.heap.size w (w.alloc o) := fun o => below_alloc (Below.refl _ w) _
 have hX := Aside0.mk (And.intro hF hG)
 clear hF hG
 go_enter Tryd.func11, Tryd.ntmps11
 go_wp2_with fail
 try go_quiet (fail)
 try go_wp2
 refine bodyPost_ret (results_cell_row rfl _ _ (w.heap.size + 1) 37 #[.int .i64 W, .int .i64 R, .slice A n c] (0, 0) _ rfl (blk2 w _ _) Tryd.underlying37 rfl (by kernel_rfl)) rfl ?_
 exact ⟨rfl, below_alloc (hX.out.2 _) _⟩
theorem large_any {w : World} {AL : Option Addr} {cL : Nat} {Lat : List Int} {AP : Option Addr} {cP : Nat} {P : List Int} {AI : Option Addr} {cI : Nat} {B : List S48} {A3 : Option Addr} {c3 : Nat} {t1 : List Int} {A4 : Option Addr} {c4 : Nat} {t2 : List Int} {A5 : Option Addr} {c5 : Nat} {t3 : List S98} (h : Bk w AL cL Lat AP cP P AI cI B A3 c3 t1 A4 c4 t2 A5 c5 t3) (t0 t4 : Int) : ∃ b, (b = false → sml B) ∧ ∀ W1 : World, Below w.heap.size w W1 →
  Calls Tryd.prog 7 #[.agg #[.slice AP P.length cP, .slice AI B.length cI, .int .i64 t0, .slice A3 t1.length c3, .slice A4 t2.length c4, .slice A5 t3.length c5, .int .i64 t4]] W1 fun e w' => e = .returned (.bool b) ∧ Below W1.heap.size W1 w' := by
 obtain ⟨b, hb, hs⟩ := large_f P B t0 t1 t2 t3 t4
 obtain ⟨k, hk⟩ := hb.get
 refine ⟨b, hs, fun W1 e1 => ?_⟩
 have g := h.below e1
 exact burnishlaw52_large.calls k AP cP P AI cI B t0 A3 c3 t1 A4 c4 t2 A5 c5 t3 t4 b W1 g.rP g.hP g.rI g.hI g.r1 g.h1 g.r2 g.h2 g.r3 g.h3 hk
end Go.Proofs.YtjacphcbiaacnaaDoor
end

section
set_option linter.unusedVariables false
set_option linter.unusedSimpArgs false
namespace Go.Proofs.YtjacphcbiaacnaaDoor
open Go.RowKit Go.Proofs.YtjacphcbiaacnaaDoorW.PrintWords Go.Proofs.YtjacphcbiaacnaaDoorW.PrintMore Go.Proofs.YtjacphcbiaacnaaDoorW.PrintLast Go.Proofs.YtjacphcbiaacnaaDoor.PDigraphTells Mem Sc
theorem own_emptyK {α : Type} (d : Kd α) (W : World) (e : Nat) (ok : Nat → Prop) (h : ok W.heap.size) : Kd.R d e (W.alloc (.cells #[] e)) 0 ok (.slice (some ⟨W.heap.size, 0, none⟩) 0 0) [] := by
 refine ⟨fun k hk => ?_, [], World.ownsRow_made W #[] 0 (Nat.zero_le _) (Nat.zero_le _) (by simp), Reps.none _ _⟩
 have : W.heap.size = k := by simpa [Value.ownBlock] using hk
 exact this ▸ h
def CL {α : Type} (d : Kd α) (e : Nat) (okp : Nat → Prop) (w : World) (xs : List α) (en : Ending) (w' : World) : Prop :=
 ∃ A c, en = .returned (.slice A xs.length c) ∧ xs.length ≤ c ∧ Kd.N d e w' 0 (fun k => okp k ∨ w.heap.size ≤ k) (.slice A xs.length c) xs ∧ (∀ g, A = some ⟨g, 0, none⟩ → w.heap.size ≤ g) ∧ Below w.heap.size w w'
theorem CL.nil {α : Type} (d : Kd α) (e : Nat) (okp : Nat → Prop) (w : World) : CL d e okp w [] (.returned (.slice none 0 0)) w :=
 ⟨none, 0, rfl, Nat.le_refl _, Kd.N_nil _ _ _ _ _, (fun g h => nomatch h), Below.refl _ _⟩
theorem CL.of {α : Type} {d : Kd α} {e : Nat} {okp : Nat → Prop} {w wa : World} {o : Obj} {xs : List α} {v : Value} (hN : Kd.N d e wa 0 (fun k => okp k ∨ w.heap.size ≤ k) v ([] ++ xs)) (hg : (w.alloc o).grownBy wa (Value.slice (some ⟨w.heap.size, 0, none⟩) 0 0).ownBlock) (hat : v.ownBlock = (Value.slice (some ⟨w.heap.size, 0, none⟩) 0 0).ownBlock ∨ ∃ b, v.ownBlock = some b ∧ (w.alloc o).heap.size ≤ b) : CL d e okp w xs (.returned v) wa := by
 rw [List.nil_append] at hN
 obtain ⟨A, c, rfl, hc, _⟩ := Kd.N_reads hN
 refine ⟨A, c, rfl, hc, hN, fun g hA => ?_, ?_⟩
 ·subst hA
  rcases hat with h | ⟨b, h1, h2⟩
  ·have : g = w.heap.size := by simpa [Value.ownBlock] using h
   omega
  ·have h3 : g = b := by simpa [Value.ownBlock] using h1
   have h4 : w.heap.size ≤ (w.alloc o).heap.size := by simp
   omega
 ·exact (((Kp.refl (fun _ => False) w).alloc _).grown hg (fun k hk => .inr (by simp [Value.ownBlock] at hk; omega))).none_below
theorem okp_ne {w : World} {okp : Nat → Prop} (hb : ∀ k, okp k → k < w.heap.size) : ∀ k, okp k → (okp k ∨ w.heap.size ≤ k) ∧ some k ≠ (Value.slice (some ⟨w.heap.size, 0, none⟩) 0 0).ownBlock := fun k hk => ⟨.inl hk, fun e => by
 have h1 : k = w.heap.size := by simpa [Value.ownBlock] using e
 have h2 := hb k hk
 omega⟩
theorem heap48 : Kd.Heap k48 := Kd.heap_iso _ (Kd.heap_pair (Kd.heap_int _) (Kd.heap_pair (Kd.heap_int _) (Kd.heap_pair (Kd.heap_int _) (Kd.heap_pair (Kd.heap_slice _ (Kd.heap_int _)) (Kd.heap_pair (Kd.heap_int _) (Kd.heap_pair (Kd.heap_int _) (Kd.heap_pair (Kd.heap_int _) Kd.heap_bool)))))))
theorem heap98 : Kd.Heap k98 := Kd.heap_iso _ (Kd.heap_pair (Kd.heap_int _) (Kd.heap_slice _ (Kd.heap_int _)))
theorem heap29 : Kd.Heap k29 := Kd.heap_iso _ (Kd.heap_pair (Kd.heap_int _) (Kd.heap_pair (Kd.heap_slice _ (Kd.heap_int _)) (Kd.heap_pair (Kd.heap_slice _ (Kd.heap_int _)) (Kd.heap_pair (Kd.heap_slice _ heap98) (Kd.heap_int _)))))
theorem heap31 : Kd.Heap k31 := Kd.heap_iso _ (Kd.heap_pair (Kd.heap_slice _ (Kd.heap_int _)) (Kd.heap_pair (Kd.heap_slice _ heap48) heap29))
theorem infoZI : (Tryd.prog.info? 3).map (fun i => (i.zero, i.size, i.bytes)) = some (some (.int .i64 0), 1, 8) := by kernel_rfl
set_option maxHeartbeats 1000000 in
theorem cloneI_any (A : Option Addr) (c : Nat) (xs : List _) (w : World) (okp : Nat → Prop) (hF : Kd.F (Kd.int .i64) w okp A xs.length xs) (hb : ∀ k, okp k → k < w.heap.size) (hm : xs.length * 8 ≤ 140737488355328) (hc : xs.length ≤ c) :
  Calls Tryd.prog 55 #[.slice A xs.length c] w (CL (Kd.int .i64) 3 okp w xs) := by
 cases A with
 | none =>
  have hx : xs = [] := by
   rcases Nat.eq_zero_or_pos xs.length with h | h
   ·exact List.eq_nil_of_length_eq_zero h
   ·obtain ⟨ad, h1, _⟩ := (Kd.F_now hF).2.2 h
    cases h1
  subst hx
  clear hF hb hm hc
  have hq : ∀ W : World, (binOp .eql 22 (.slice none 0 c) (.slice none 0 0)).run Tryd.prog W = .ok (.bool true) W := fun W => Go.Lib.run_eql_slice_nil W 22 3 none _ _ _ _ Tryd.underlying22
  go_enter Tryd.func55, Tryd.ntmps55
  go_wp2
  go_ret
  exact CL.nil _ _ _ _
 | some ad =>
  have hE : Aside0 (Kd.N (Kd.int .i64) 3 (w.alloc (.cells #[] 3)) 0 (fun k => okp k ∨ w.heap.size ≤ k) (.slice (some ⟨w.heap.size, 0, none⟩) 0 0) []) := ⟨Kd.R_N (own_emptyK _ w _ _ (.inr (Nat.le_refl _)))⟩
  have hC' : Aside0 (Kd.F (Kd.int .i64) (w.alloc (.cells #[] 3)) okp (some ad) xs.length xs) := ⟨Kd.F_alloc hF _⟩
  have hm' := Aside0.mk (And.intro hm hb)
  clear hF hm hb hc
  have hq : ∀ W : World, (binOp .eql 22 (.slice (some ad) xs.length c) (.slice none 0 0)).run Tryd.prog W = .ok (.bool false) W := fun W => Go.Lib.run_eql_slice_nil W 22 3 (some ad) _ _ _ _ Tryd.underlying22
  go_enter Tryd.func55, Tryd.ntmps55
  go_wp2_with (at_builtin; refine Kd.N_append_rows (Kd.int .i64) (w0 := w) 0 (by rfl) (.tmp 5) (.tmp 6) 22 3 (.int .i64 0) 8 (by rfl) Tryd.underlying22 infoZI rfl (by decide) (by decide) (.slice (some ⟨w.heap.size, 0, none⟩) 0 0) [] xs (some ad) xs.length c (fun k => okp k ∨ w.heap.size ≤ k) okp (by rfl) (by rfl) hE.out hC'.out (okp_ne hm'.out.2) (fun k hk => .inr (by simp at hk; omega)) ((Kp.refl (fun _ => False) w).alloc _ |>.belowB (fun _ h => h.elim) (Nat.zero_le _)) (Nat.zero_le _) (by have := hm'.out.1; simp; omega) ?_; intro v1 wa hRA hBA hgA hatA; have hR := Aside0.mk (CL.of hRA hgA hatA); clear hRA hBA hgA hatA)
  go_ret
  exact hR.out
theorem infoZT : (Tryd.prog.info? 46).map (fun i => (i.zero, i.size, i.bytes)) = some (some (.int .i64 0), 1, 8) := by kernel_rfl
set_option maxHeartbeats 1000000 in
theorem cloneT_any (A : Option Addr) (c : Nat) (xs : List _) (w : World) (okp : Nat → Prop) (hF : Kd.F (Kd.int .i64) w okp A xs.length xs) (hb : ∀ k, okp k → k < w.heap.size) (hm : xs.length * 8 ≤ 140737488355328) (hc : xs.length ≤ c) :
  Calls Tryd.prog 56 #[.slice A xs.length c] w (CL (Kd.int .i64) 46 okp w xs) := by
 cases A with
 | none =>
  have hx : xs = [] := by
   rcases Nat.eq_zero_or_pos xs.length with h | h
   ·exact List.eq_nil_of_length_eq_zero h
   ·obtain ⟨ad, h1, _⟩ := (Kd.F_now hF).2.2 h
    cases h1
  subst hx
  clear hF hb hm hc
  have hq : ∀ W : World, (binOp .eql 52 (.slice none 0 c) (.slice none 0 0)).run Tryd.prog W = .ok (.bool true) W := fun W => Go.Lib.run_eql_slice_nil W 52 46 none _ _ _ _ Tryd.underlying52
  go_enter Tryd.func56, Tryd.ntmps56
  go_wp2
  go_ret
  exact CL.nil _ _ _ _
 | some ad =>
  have hE : Aside0 (Kd.N (Kd.int .i64) 46 (w.alloc (.cells #[] 46)) 0 (fun k => okp k ∨ w.heap.size ≤ k) (.slice (some ⟨w.heap.size, 0, none⟩) 0 0) []) := ⟨Kd.R_N (own_emptyK _ w _ _ (.inr (Nat.le_refl _)))⟩
  have hC' : Aside0 (Kd.F (Kd.int .i64) (w.alloc (.cells #[] 46)) okp (some ad) xs.length xs) := ⟨Kd.F_alloc hF _⟩
  have hm' := Aside0.mk (And.intro hm hb)
  clear hF hm hb hc
  have hq : ∀ W : World, (binOp .eql 52 (.slice (some ad) xs.length c) (.slice none 0 0)).run Tryd.prog W = .ok (.bool false) W := fun W => Go.Lib.run_eql_slice_nil W 52 46 (some ad) _ _ _ _ Tryd.underlying52
  go_enter Tryd.func56, Tryd.ntmps56
  go_wp2_with (at_builtin; refine Kd.N_append_rows (Kd.int .i64) (w0 := w) 0 (by rfl) (.tmp 5) (.tmp 6) 52 46 (.int .i64 0) 8 (by rfl) Tryd.underlying52 infoZT rfl (by decide) (by decide) (.slice (some ⟨w.heap.size, 0, none⟩) 0 0) [] xs (some ad) xs.length c (fun k => okp k ∨ w.heap.size ≤ k) okp (by rfl) (by rfl) hE.out hC'.out (okp_ne hm'.out.2) (fun k hk => .inr (by simp at hk; omega)) ((Kp.refl (fun _ => False) w).alloc _ |>.belowB (fun _ h => h.elim) (Nat.zero_le _)) (Nat.zero_le _) (by have := hm'.out.1; simp; omega) ?_; intro v1 wa hRA hBA hgA hatA; have hR := Aside0.mk (CL.of hRA hgA hatA); clear hRA hBA hgA hatA)
  go_ret
  exact hR.out
theorem infoZB : (Tryd.prog.info? 31).map (fun i => (i.zero, i.size, i.bytes)) = some (some (.agg #[.slice none 0 0, .slice none 0 0, .int .i64 0, .slice none 0 0, .slice none 0 0, .slice none 0 0, .int .i64 0]), 7, 136) := by kernel_rfl
set_option maxHeartbeats 1000000 in
theorem cloneB_any (A : Option Addr) (c : Nat) (xs : List _) (w : World) (okp : Nat → Prop) (hF : Kd.F k31 w okp A xs.length xs) (hb : ∀ k, okp k → k < w.heap.size) (hm : xs.length * 136 ≤ 140737488355328) (hc : xs.length ≤ c) :
  Calls Tryd.prog 57 #[.slice A xs.length c] w (CL k31 31 okp w xs) := by
 cases A with
 | none =>
  have hx : xs = [] := by
   rcases Nat.eq_zero_or_pos xs.length with h | h
   ·exact List.eq_nil_of_length_eq_zero h
   ·obtain ⟨ad, h1, _⟩ := (Kd.F_now hF).2.2 h
    cases h1
  subst hx
  clear hF hb hm hc
  have hq : ∀ W : World, (binOp .eql 53 (.slice none 0 c) (.slice none 0 0)).run Tryd.prog W = .ok (.bool true) W := fun W => Go.Lib.run_eql_slice_nil W 53 31 none _ _ _ _ Tryd.underlying53
  go_enter Tryd.func57, Tryd.ntmps57
  go_wp2
  go_ret
  exact CL.nil _ _ _ _
 | some ad =>
  have hE : Aside0 (Kd.N k31 31 (w.alloc (.cells #[] 31)) 0 (fun k => okp k ∨ w.heap.size ≤ k) (.slice (some ⟨w.heap.size, 0, none⟩) 0 0) []) := ⟨Kd.R_N (own_emptyK _ w _ _ (.inr (Nat.le_refl _)))⟩
  have hC' : Aside0 (Kd.F k31 (w.alloc (.cells #[] 31)) okp (some ad) xs.length xs) := ⟨Kd.F_alloc hF _⟩
  have hm' := Aside0.mk (And.intro hm hb)
  clear hF hm hb hc
  have hq : ∀ W : World, (binOp .eql 53 (.slice (some ad) xs.length c) (.slice none 0 0)).run Tryd.prog W = .ok (.bool false) W := fun W => Go.Lib.run_eql_slice_nil W 53 31 (some ad) _ _ _ _ Tryd.underlying53
  go_enter Tryd.func57, Tryd.ntmps57
  go_wp2_with (at_builtin; refine Kd.N_append_rows k31 (w0 := w) 0 (by rfl) (.tmp 5) (.tmp 6) 53 31 (.agg #[.slice none 0 0, .slice none 0 0, .int .i64 0, .slice none 0 0, .slice none 0 0, .slice none 0 0, .int .i64 0]) 136 (by rfl) Tryd.underlying53 infoZB rfl (by decide) (by decide) (.slice (some ⟨w.heap.size, 0, none⟩) 0 0) [] xs (some ad) xs.length c (fun k => okp k ∨ w.heap.size ≤ k) okp (by rfl) (by rfl) hE.out hC'.out (okp_ne hm'.out.2) (fun k hk => .inr (by simp at hk; omega)) ((Kp.refl (fun _ => False) w).alloc _ |>.belowB (fun _ h => h.elim) (Nat.zero_le _)) (Nat.zero_le _) (by have := hm'.out.1; simp; omega) ?_; intro v1 wa hRA hBA hgA hatA; have hR := Aside0.mk (CL.of hRA hgA hatA); clear hRA hBA hgA hatA)
  go_ret
  exact hR.out
theorem infoZN : (Tryd.prog.info? 48).map (fun i => (i.zero, i.size, i.bytes)) = some (some (.agg #[.int .i64 0, .int .i64 0, .int .i64 0, .slice none 0 0, .int .i64 0, .int .i64 0, .int .i64 0, .bool false]), 8, 80) := by kernel_rfl
set_option maxHeartbeats 1000000 in
theorem cloneN_any (A : Option Addr) (c : Nat) (xs : List _) (w : World) (okp : Nat → Prop) (hF : Kd.F k48 w okp A xs.length xs) (hb : ∀ k, okp k → k < w.heap.size) (hm : xs.length * 80 ≤ 140737488355328) (hc : xs.length ≤ c) :
  Calls Tryd.prog 58 #[.slice A xs.length c] w (CL k48 48 okp w xs) := by
 cases A with
 | none =>
  have hx : xs = [] := by
   rcases Nat.eq_zero_or_pos xs.length with h | h
   ·exact List.eq_nil_of_length_eq_zero h
   ·obtain ⟨ad, h1, _⟩ := (Kd.F_now hF).2.2 h
    cases h1
  subst hx
  clear hF hb hm hc
  have hq : ∀ W : World, (binOp .eql 25 (.slice none 0 c) (.slice none 0 0)).run Tryd.prog W = .ok (.bool true) W := fun W => Go.Lib.run_eql_slice_nil W 25 48 none _ _ _ _ Tryd.underlying25
  go_enter Tryd.func58, Tryd.ntmps58
  go_wp2
  go_ret
  exact CL.nil _ _ _ _
 | some ad =>
  have hE : Aside0 (Kd.N k48 48 (w.alloc (.cells #[] 48)) 0 (fun k => okp k ∨ w.heap.size ≤ k) (.slice (some ⟨w.heap.size, 0, none⟩) 0 0) []) := ⟨Kd.R_N (own_emptyK _ w _ _ (.inr (Nat.le_refl _)))⟩
  have hC' : Aside0 (Kd.F k48 (w.alloc (.cells #[] 48)) okp (some ad) xs.length xs) := ⟨Kd.F_alloc hF _⟩
  have hm' := Aside0.mk (And.intro hm hb)
  clear hF hm hb hc
  have hq : ∀ W : World, (binOp .eql 25 (.slice (some ad) xs.length c) (.slice none 0 0)).run Tryd.prog W = .ok (.bool false) W := fun W => Go.Lib.run_eql_slice_nil W 25 48 (some ad) _ _ _ _ Tryd.underlying25
  go_enter Tryd.func58, Tryd.ntmps58
  go_wp2_with (at_builtin; refine Kd.N_append_rows k48 (w0 := w) 0 (by rfl) (.tmp 5) (.tmp 6) 25 48 (.agg #[.int .i64 0, .int .i64 0, .int .i64 0, .slice none 0 0, .int .i64 0, .int .i64 0, .int .i64 0, .bool false]) 80 (by rfl) Tryd.underlying25 infoZN rfl (by decide) (by decide) (.slice (some ⟨w.heap.size, 0, none⟩) 0 0) [] xs (some ad) xs.length c (fun k => okp k ∨ w.heap.size ≤ k) okp (by rfl) (by rfl) hE.out hC'.out (okp_ne hm'.out.2) (fun k hk => .inr (by simp at hk; omega)) ((Kp.refl (fun _ => False) w).alloc _ |>.belowB (fun _ h => h.elim) (Nat.zero_le _)) (Nat.zero_le _) (by have := hm'.out.1; simp; omega) ?_; intro v1 wa hRA hBA hgA hatA; have hR := Aside0.mk (CL.of hRA hgA hatA); clear hRA hBA hgA hatA)
  go_ret
  exact hR.out
theorem infoZL : (Tryd.prog.info? 2).map (fun i => (i.zero, i.size, i.bytes)) = some (some (.int .i64 0), 1, 8) := by kernel_rfl
set_option maxHeartbeats 1000000 in
theorem cloneL_any (A : Option Addr) (c : Nat) (xs : List _) (w : World) (okp : Nat → Prop) (hF : Kd.F (Kd.int .i64) w okp A xs.length xs) (hb : ∀ k, okp k → k < w.heap.size) (hm : xs.length * 8 ≤ 140737488355328) (hc : xs.length ≤ c) :
  Calls Tryd.prog 59 #[.slice A xs.length c] w (CL (Kd.int .i64) 2 okp w xs) := by
 cases A with
 | none =>
  have hx : xs = [] := by
   rcases Nat.eq_zero_or_pos xs.length with h | h
   ·exact List.eq_nil_of_length_eq_zero h
   ·obtain ⟨ad, h1, _⟩ := (Kd.F_now hF).2.2 h
    cases h1
  subst hx
  clear hF hb hm hc
  have hq : ∀ W : World, (binOp .eql 26 (.slice none 0 c) (.slice none 0 0)).run Tryd.prog W = .ok (.bool true) W := fun W => Go.Lib.run_eql_slice_nil W 26 2 none _ _ _ _ Tryd.underlying26
  go_enter Tryd.func59, Tryd.ntmps59
  go_wp2
  go_ret
  exact CL.nil _ _ _ _
 | some ad =>
  have hE : Aside0 (Kd.N (Kd.int .i64) 2 (w.alloc (.cells #[] 2)) 0 (fun k => okp k ∨ w.heap.size ≤ k) (.slice (some ⟨w.heap.size, 0, none⟩) 0 0) []) := ⟨Kd.R_N (own_emptyK _ w _ _ (.inr (Nat.le_refl _)))⟩
  have hC' : Aside0 (Kd.F (Kd.int .i64) (w.alloc (.cells #[] 2)) okp (some ad) xs.length xs) := ⟨Kd.F_alloc hF _⟩
  have hm' := Aside0.mk (And.intro hm hb)
  clear hF hm hb hc
  have hq : ∀ W : World, (binOp .eql 26 (.slice (some ad) xs.length c) (.slice none 0 0)).run Tryd.prog W = .ok (.bool false) W := fun W => Go.Lib.run_eql_slice_nil W 26 2 (some ad) _ _ _ _ Tryd.underlying26
  go_enter Tryd.func59, Tryd.ntmps59
  go_wp2_with (at_builtin; refine Kd.N_append_rows (Kd.int .i64) (w0 := w) 0 (by rfl) (.tmp 5) (.tmp 6) 26 2 (.int .i64 0) 8 (by rfl) Tryd.underlying26 infoZL rfl (by decide) (by decide) (.slice (some ⟨w.heap.size, 0, none⟩) 0 0) [] xs (some ad) xs.length c (fun k => okp k ∨ w.heap.size ≤ k) okp (by rfl) (by rfl) hE.out hC'.out (okp_ne hm'.out.2) (fun k hk => .inr (by simp at hk; omega)) ((Kp.refl (fun _ => False) w).alloc _ |>.belowB (fun _ h => h.elim) (Nat.zero_le _)) (Nat.zero_le _) (by have := hm'.out.1; simp; omega) ?_; intro v1 wa hRA hBA hgA hatA; have hR := Aside0.mk (CL.of hRA hgA hatA); clear hRA hBA hgA hatA)
  go_ret
  exact hR.out
theorem infoZE : (Tryd.prog.info? 98).map (fun i => (i.zero, i.size, i.bytes)) = some (some (.agg #[.int .i64 0, .slice none 0 0]), 2, 32) := by kernel_rfl
set_option maxHeartbeats 1000000 in
theorem cloneE_any (A : Option Addr) (c : Nat) (xs : List _) (w : World) (okp : Nat → Prop) (hF : Kd.F k98 w okp A xs.length xs) (hb : ∀ k, okp k → k < w.heap.size) (hm : xs.length * 32 ≤ 140737488355328) (hc : xs.length ≤ c) :
  Calls Tryd.prog 60 #[.slice A xs.length c] w (CL k98 98 okp w xs) := by
 cases A with
 | none =>
  have hx : xs = [] := by
   rcases Nat.eq_zero_or_pos xs.length with h | h
   ·exact List.eq_nil_of_length_eq_zero h
   ·obtain ⟨ad, h1, _⟩ := (Kd.F_now hF).2.2 h
    cases h1
  subst hx
  clear hF hb hm hc
  have hq : ∀ W : World, (binOp .eql 27 (.slice none 0 c) (.slice none 0 0)).run Tryd.prog W = .ok (.bool true) W := fun W => Go.Lib.run_eql_slice_nil W 27 98 none _ _ _ _ Tryd.underlying27
  go_enter Tryd.func60, Tryd.ntmps60
  go_wp2
  go_ret
  exact CL.nil _ _ _ _
 | some ad =>
  have hE : Aside0 (Kd.N k98 98 (w.alloc (.cells #[] 98)) 0 (fun k => okp k ∨ w.heap.size ≤ k) (.slice (some ⟨w.heap.size, 0, none⟩) 0 0) []) := ⟨Kd.R_N (own_emptyK _ w _ _ (.inr (Nat.le_refl _)))⟩
  have hC' : Aside0 (Kd.F k98 (w.alloc (.cells #[] 98)) okp (some ad) xs.length xs) := ⟨Kd.F_alloc hF _⟩
  have hm' := Aside0.mk (And.intro hm hb)
  clear hF hm hb hc
  have hq : ∀ W : World, (binOp .eql 27 (.slice (some ad) xs.length c) (.slice none 0 0)).run Tryd.prog W = .ok (.bool false) W := fun W => Go.Lib.run_eql_slice_nil W 27 98 (some ad) _ _ _ _ Tryd.underlying27
  go_enter Tryd.func60, Tryd.ntmps60
  go_wp2_with (at_builtin; refine Kd.N_append_rows k98 (w0 := w) 0 (by rfl) (.tmp 5) (.tmp 6) 27 98 (.agg #[.int .i64 0, .slice none 0 0]) 32 (by rfl) Tryd.underlying27 infoZE rfl (by decide) (by decide) (.slice (some ⟨w.heap.size, 0, none⟩) 0 0) [] xs (some ad) xs.length c (fun k => okp k ∨ w.heap.size ≤ k) okp (by rfl) (by rfl) hE.out hC'.out (okp_ne hm'.out.2) (fun k hk => .inr (by simp at hk; omega)) ((Kp.refl (fun _ => False) w).alloc _ |>.belowB (fun _ h => h.elim) (Nat.zero_le _)) (Nat.zero_le _) (by have := hm'.out.1; simp; omega) ?_; intro v1 wa hRA hBA hgA hatA; have hR := Aside0.mk (CL.of hRA hgA hatA); clear hRA hBA hgA hatA)
  go_ret
  exact hR.out
end Go.Proofs.YtjacphcbiaacnaaDoor
end

section
set_option linter.unusedVariables false
set_option linter.unusedSimpArgs false
namespace Go.Proofs.YtjacphcbiaacnaaDoor.Opens
open Go.RowKit Go.Proofs.YtjacphcbiaacnaaDoorW.PrintWords Go.Proofs.YtjacphcbiaacnaaDoor.Mem Go.Deep
variable {H : Type} {enc : TypeId × Value → H} {P : Program} {W : World}
structure Op {α : Type} (enc : TypeId × Value → H) (P : Program) (W : World) (t : TypeId) (d : Kd α) (good : α → Prop) : Prop where
 op : ∀ {fuel : Nat} {cs : List Value} {x : DataW H × List MemPlace}, DataW.trod enc P W 0 (fun _ => true) true fuel t cs = some x → (∀ n ∈ x.1.weights P t, n ≤ reachBytes) → ∃ y, d.K W y cs ∧ good y
theorem Op.int {t : TypeId} {k : IntKind} (ht : P.underlying t = some (.int k)) : Op enc P W t (Kd.int k) (fun n => (Lit.int k n).wf = true) :=
 ⟨fun h _ => by
  obtain ⟨n, rfl, _, hw⟩ := DataW.trod_int ht h
  exact ⟨n, rfl, hw⟩⟩
theorem Op.bool {t : TypeId} (ht : P.underlying t = some .bool) : Op enc P W t Kd.bool (fun _ => True) :=
 ⟨fun h _ => by
  obtain ⟨n, rfl, _⟩ := DataW.trod_bool ht h
  exact ⟨n, rfl, trivial⟩⟩
theorem Op.string {t : TypeId} (ht : P.underlying t = some .string) : Op enc P W t Kd.string (fun s => s.size ≤ 140737488351232) :=
 ⟨fun h hw => by
  obtain ⟨s, rfl, rfl, _⟩ := DataW.trod_string ht h
  exact ⟨s, rfl, by simpa [DataW.weights, reachBytes] using hw⟩⟩
theorem cell_of_cells {w : World} {a : Addr} {n : Nat} {cs : List Value} (h : w.cells? 0 a n = some cs) : cs.length = n ∧ ∀ i u, cs[i]? = some u → w.cell? (a.add i) = some u := by
 unfold World.cells? at h
 rw [if_pos (Nat.zero_le _)] at h
 have key : ∀ (l : List Nat) (cs : List Value), l.mapM (fun i => w.cell? (a.add i)) = some cs → cs.length = l.length ∧ ∀ (i j : Nat) u, l[i]? = some j → cs[i]? = some u → w.cell? (a.add j) = some u := by
  intro l
  induction l with
  | nil =>
   intro cs h
   simp at h
   subst h
   simp
  | cons b r ih =>
   intro cs h
   simp only [List.mapM_cons, Option.bind_eq_bind, Option.bind_eq_some_iff] at h
   obtain ⟨v, hv, ys, hys, he⟩ := h
   obtain rfl : v :: ys = cs := by simpa using he
   obtain ⟨h1, h2⟩ := ih ys hys
   refine ⟨by simp [h1], fun i j u hi hu => ?_⟩
   cases i with
   | zero => simp at hi hu; subst hi; subst hu; exact hv
   | succ i => exact h2 i j u (by simpa using hi) (by simpa using hu)
 obtain ⟨h1, h2⟩ := key _ _ h
 refine ⟨by simpa using h1, fun i u hu => h2 i i u ?_ hu⟩
 have hl : i < cs.length := (List.getElem?_eq_some_iff.1 hu).1
 rw [h1] at hl
 simp at hl
 simp [hl]
theorem weights_all {e : TypeId} : ∀ (l : List (DataW H)) (n : Nat) (i : Nat) (d : DataW H), l[i]? = some d → n ∈ d.weights P e → n ∈ DataW.weightsAll P e l
 | [], _, _, _, h, _ => by simp at h
 | d0 :: r, n, 0, d, h, hn => by
  simp at h
  subst h
  rw [DataW.weightsAll]
  exact List.mem_append_left _ hn
 | d0 :: r, n, i + 1, d, h, hn => by
  rw [DataW.weightsAll]
  exact List.mem_append_right _ (weights_all r n i d (by simpa using h) hn)
theorem build {β : Type} {n : Nat} {p : Nat → β → Prop} (h : ∀ i, i < n → ∃ y, p i y) : ∃ xs : List β, xs.length = n ∧ ∀ i, i < n → ∃ y, xs[i]? = some y ∧ p i y := by
 induction n with
 | zero => exact ⟨[], rfl, fun i hi => by omega⟩
 | succ m ih =>
  obtain ⟨xs, h1, h2⟩ := ih (fun i hi => h i (by omega))
  obtain ⟨y, g⟩ := h m (by omega)
  refine ⟨xs ++ [y], by simp [h1], fun i hi => ?_⟩
  by_cases e : i < m
  ·obtain ⟨y', h3, g'⟩ := h2 i e
   exact ⟨y', by rw [List.getElem?_append_left (by omega)]; exact h3, g'⟩
  ·obtain rfl : i = m := by omega
   exact ⟨y, by rw [← h1]; simp, g⟩
theorem Op.slice {α : Type} {t e : TypeId} {d : Kd α} {good : α → Prop} {B : Nat} (h : Op enc P W e d good) (ht : P.underlying t = some (.slice e)) (hc : P.cellsOf e = d.sz) (hB : P.bytesOf e = B) :
  Op enc P W t (Kd.slice e d) (fun xs => xs.length * B ≤ 140737488351232 ∧ ∀ x ∈ xs, good x) := by
 refine ⟨fun {fuel cs x} hx hw => ?_⟩
 rcases DataW.trod_slice ht hx with ⟨rfl, rfl⟩ | ⟨a, len, cap, elems, rest, n, rfl, rfl, rfl, _, hl, hm, hel, hcell, _, _⟩
 ·exact ⟨[], ⟨none, 0, rfl, Nat.le_refl _, Kd.C_nil d W⟩, by simp, fun x hx => by simp at hx⟩
 ·have hsz : (elems.length + rest.length) * B ≤ 140737488351232 := by
   have := hw ((elems.length + rest.length) * P.bytesOf e) (by simp [DataW.weights, ht])
   simpa [hB, reachBytes] using this
  have each : ∀ i, i < len → ∃ y c, c.length = d.sz ∧ (∀ j u, c[j]? = some u → W.cell? ((a.add (i * d.sz)).add j) = some u) ∧ d.K W y c ∧ good y := by
   intro i hi
   have h1 := hcell i hi
   have hi2 : i < elems.length := by omega
   rw [List.getElem?_eq_getElem hi2, Option.bind_eq_some_iff] at h1
   obtain ⟨c, hc1, hc2⟩ := h1
   obtain ⟨y, hy, hg⟩ := h.op hc2 (fun n hn => hw n (by
    simp only [DataW.weights, ht]
    refine List.mem_cons_of_mem _ (List.mem_append_left _ (weights_all _ n i elems[i].1 ?_ hn))
    simp [hi2]))
   rw [hc] at hc1
   obtain ⟨g1, g2⟩ := cell_of_cells hc1
   exact ⟨y, c, g1, g2, hy, hg⟩
  have hxs : ∃ xs : List α, xs.length = len ∧ ∀ i, i < len → ∃ y, xs[i]? = some y ∧ ∃ c, c.length = d.sz ∧ (∀ j u, c[j]? = some u → W.cell? ((a.add (i * d.sz)).add j) = some u) ∧ d.K W y c ∧ good y := build each
  obtain ⟨xs, h1, h2⟩ := hxs
  refine ⟨xs, ⟨some a, cap, by rw [h1], by omega, ?_⟩, ?_, ?_⟩
  ·refine ⟨rfl, by rw [h1]; unfold maxLen at hm; omega, fun _ => ⟨a, rfl, fun j p hj => ?_⟩⟩
   have hjl : j < len := by
    have := (List.getElem?_eq_some_iff.1 hj).1
    omega
   obtain ⟨y, e1, c, g1, g2, g3, g4⟩ := h2 j hjl
   rw [hj] at e1
   injection e1 with e1
   subst e1
   refine ⟨c, g1, g3, fun i u hu => ?_⟩
   have := g2 i u hu
   rwa [Go.Deep.add_add] at this
  ·refine Nat.le_trans (Nat.mul_le_mul_right _ ?_) hsz
   omega
  ·intro x hx
   obtain ⟨i, hi, rfl⟩ := List.getElem_of_mem hx
   obtain ⟨y, e1, c, g1, g2, g3, g4⟩ := h2 i (by omega)
   rw [List.getElem?_eq_getElem hi] at e1
   injection e1 with e1
   exact e1 ▸ g4
structure Fs {α : Type} (enc : TypeId × Value → H) (P : Program) (W : World) (fs : List Field) (off : Nat) (d : Kd α) (good : α → Prop) : Prop where
 op : ∀ {fuel : Nat} {cs : List Value} {xs : List (DataW H × List MemPlace)}, xs.length = fs.length → (∀ (i : Nat) (f : Field), fs[i]? = some f → DataW.trod enc P W 0 (fun _ => true) true fuel f.type ((cs.drop f.offset).take (P.cellsOf f.type)) = xs[i]?) →
  (∀ n ∈ DataW.weightsEach P (fs.map (·.type)) (xs.map (·.1)), n ≤ reachBytes) → ∃ y, d.K W y ((cs.drop off).take d.sz) ∧ good y
theorem Fs.one {α : Type} {f : Field} {d : Kd α} {good : α → Prop} (h : Op enc P W f.type d good) (hc : P.cellsOf f.type = d.sz) : Fs enc P W [f] f.offset d good := by
 refine ⟨fun {fuel cs xs} hl hx hw => ?_⟩
 match xs, hl with
 | [x], _ =>
  have h1 := hx 0 f rfl
  obtain ⟨y, hy, hg⟩ := h.op h1 (fun n hn => hw n (by simp [DataW.weightsEach, hn]))
  rw [hc] at hy
  exact ⟨y, hy, hg⟩
theorem Fs.cons {α β : Type} {f : Field} {fs : List Field} {a : Kd α} {b : Kd β} {ga : α → Prop} {gb : β → Prop} {off : Nat} (h : Op enc P W f.type a ga) (k : Fs enc P W fs off b gb) (hc : P.cellsOf f.type = a.sz) (ho : off = f.offset + a.sz) :
  Fs enc P W (f :: fs) f.offset (Kd.pair a b) (fun x => ga x.1 ∧ gb x.2) := by
 refine ⟨fun {fuel cs xs} hl hx hw => ?_⟩
 match xs, hl with
 | x :: r, hl =>
  have h1 := hx 0 f rfl
  obtain ⟨y, hy, hg⟩ := h.op h1 (fun n hn => hw n (by simp [DataW.weightsEach, hn]))
  obtain ⟨z, hz, hgz⟩ := k.op (cs := cs) (xs := r) (by simpa using hl) (fun i f' hf => by simpa using hx (i + 1) f' (by simpa using hf)) (fun n hn => hw n (by
   simp only [List.map_cons, DataW.weightsEach]
   exact List.mem_append_right _ hn))
  rw [hc] at hy
  refine ⟨(y, z), ⟨_, _, ?_, hy, hz⟩, hg, hgz⟩
  rw [ho, ← List.drop_drop]
  show List.take (a.sz + b.sz) _ = _
  rw [List.take_add]
theorem Op.struct {α β : Type} {t : TypeId} {fs : Array Field} {l : List Field} {d : Kd α} {good : α → Prop} (h : Fs enc P W l 0 d good) (ht : P.underlying t = some (.struct fs)) (hl : fs.toList = l) (hc : P.cellsOf t = d.sz) (f : β → α) (g : α → β) (hfg : ∀ z, f (g z) = z) :
  Op enc P W t (Kd.iso d f) (fun y => good (f y)) := by
 refine ⟨fun {fuel cs x} hx hw => ?_⟩
 obtain ⟨xs, n, rfl, rfl, hcs, hxl, hall⟩ := DataW.trod_struct ht hx
 obtain ⟨y, hy, hg⟩ := h.op (fuel := n) (cs := cs) (xs := xs) (by rw [← hl]; simpa using hxl) (fun i f' hf => hall i f' (by rw [← hl] at hf; simpa using hf)) (fun n hn => hw n (by simpa [DataW.weights, ht, hl] using hn))
 refine ⟨g y, ?_, by rw [hfg]; exact hg⟩
 show d.K W (f (g y)) cs
 rw [hfg]
 have e : (cs.drop 0).take d.sz = cs := by rw [List.drop_zero, ← hc, ← hcs, List.take_length]
 rwa [e] at hy
theorem Op.imp {α : Type} {t : TypeId} {d : Kd α} {good good' : α → Prop} (h : Op enc P W t d good) (hg : ∀ x, good x → good' x) : Op enc P W t d good' := ⟨fun hx hw => by
 obtain ⟨y, hy, hgy⟩ := h.op hx hw
 exact ⟨y, hy, hg y hgy⟩⟩
theorem Op.arg_agg {α : Type} {t : TypeId} {d : Kd α} {good : α → Prop} {v : Value} {x : DataW H} {p : List MemPlace} (h : Op enc P W t d good) (hv : ∃ cs, v = .agg cs) (hx : DataW.Trod enc P W 0 (fun _ => true) true t v x p)
  (hw : ∀ n ∈ x.weights P t, n ≤ reachBytes) : ∃ y cs, v = .agg cs ∧ d.K W y cs.toList ∧ good y := by
 obtain ⟨cs, rfl⟩ := hv
 obtain ⟨fuel, hf⟩ := hx
 obtain ⟨y, hy, hg⟩ := h.op hf hw
 exact ⟨y, cs, rfl, by simpa [Value.cells] using hy, hg⟩
theorem weight_of {ts : List TypeId} {ds : List (DataW H)} (h : (DataW.weightsEach P ts ds).all (· ≤ reachBytes) = true) {j : Nat} {t : TypeId} {d : DataW H} (ht : ts[j]? = some t) (hd : ds[j]? = some d) : ∀ n ∈ d.weights P t, n ≤ reachBytes :=
 fun n hn => by simpa using List.all_eq_true.1 h n (DataW.weights_mem_each ht hd n hn)
end Go.Proofs.YtjacphcbiaacnaaDoor.Opens
end

