/- digraph.ShortestPath. -/
import Derived.Test.YtjkclhpibielfaaFrF
set_option linter.unusedVariables false
set_option linter.unusedSimpArgs false
namespace Go.Proofs.Ytjkclhpibielfaa
open Go.RowKit Go.Proofs.YtjkclhpibielfaaW.PrintWords Go.Proofs.Ytjkclhpibielfaa.PDigraphTells Mem

theorem hasG_two {G : List (List Int)} {a b : Int} (r : Bool) (h : r = true ↔ chk G = 0 ∧ isNode G a ∧ isNode G b) : hasG G [a, b] = r := by
  have h1 := hasG_iff G [a, b]
  cases r with
  | true =>
    obtain ⟨h2, h3, h4⟩ := h.1 rfl
    exact h1.2 ⟨by simpa using ⟨h3, h4⟩, h2⟩
  | false =>
    cases e : hasG G [a, b] with
    | false => rfl
    | true =>
      have h5 := h1.1 e
      have := h.2 ⟨h5.2, h5.1 a (by simp), h5.1 b (by simp)⟩
      cases this
theorem own_one (W : World) (v : Int) : Kd.R (Kd.int .i64) 3 (W.alloc (.cells #[.int .i64 v] 3)) 0 (fun k => k = W.heap.size) (.slice (some ⟨W.heap.size, 0, none⟩) 1 1) [v] := by
  refine Kd.R_of_own ?_ (fun k hk => ?_)
  · have h := World.ownsRow_lit (base := 0) (e := 3) (size := 1) W #[.int .i64 v] 1 (Nat.zero_le _) (by unfold maxLen; omega) (by simp)
    simpa [encs] using h
  · have : W.heap.size = k := by simpa [Value.ownBlock] using hk
    exact this.symm
/-- What holds ahead of a step along the path. -/
structure PS2 (G : List (List Int)) (r : List Int) (tot : List Int) (w2 wr : World) (vo : Value) (out : List Int) (n : Int) (d : Nat) : Prop where
  row : Kd.R (Kd.int .i64) 3 wr 0 (fun k => w2.heap.size ≤ k) vo out
  below : Below w2.heap.size w2 wr
  node : isNode G n
  far : distOf r n = d
  eq : out ++ (Grf.path (adj G) (distOf r) d n).tail = tot
  len : out.length + d ≤ 70000
theorem PS2.step {G : List (List Int)} {r tot : List Int} {w2 wr W : World} {vo : Value} {out : List Int} {n : Int} {d : Nat} (h : PS2 G r tot w2 wr vo out n d) (hb : Below wr.heap.size wr W) : PS2 G r tot w2 W vo out n d :=
  ⟨Kd.R_step h.row (fun k _ hk => hb.block k hk), h.below.trans (hb.mono h.below.size), h.node, h.far, h.eq, h.len⟩
theorem PS2.zero {G : List (List Int)} {r tot : List Int} {b : Int} {w2 wr : World} {vo : Value} {out : List Int} {n : Int} {d : Nat} (hf : farL G b r) (h : PS2 G r tot w2 wr vo out n d) : n = b ↔ d = 0 := by
  constructor
  · rintro rfl
    have h1 := h.far
    rw [hf.2.zero] at h1
    omega
  · intro h0
    have h1 := hf.2.walk n ((mem_nodes G n).2 h.node) (by rw [h.far]; omega)
    rw [h.far, h0] at h1
    cases h1
    rfl
set_option maxRecDepth 100000 in
theorem short_no (A : Option Addr) (c : Nat) (G : List (List Int)) (a b : Int) (w : World) (hC : Kd.C kG w A G.length G) (hc : G.length ≤ c) (hs : short G) (hok : ¬ (chk G = 0 ∧ isNode G a ∧ isNode G b)) :
    Calls Try.prog 24 #[.agg #[.slice A G.length c], .int .i64 a, .int .i64 b] w fun e w' => e = .returned (.slice none 0 0) ∧ Below w.heap.size w w' := by
  have hX := Aside0.mk (And.intro hC (And.intro hc (And.intro hs (hasG_two (G := G) (a := a) (b := b) false ⟨fun h => (by cases h), fun h => absurd h hok⟩))))
  clear hC hc hs hok
  go_enter Try.func24, Try.ntmps24
  go_wp2_with fail
  refine (has_any1 A c G (some ⟨w.heap.size + 1, 0, none⟩) 2 [a, b] _ (Kd.C_alloc (Kd.C_alloc hX.out.1 _) _) hX.out.2.1 ?_ (by simp) hX.out.2.2.1 (by simp) false hX.out.2.2.2).mono ?_
  · have := C_new (w.alloc (.cells #[.slice A G.length c] 24)) [a, b] (by simp) _ rfl
    simpa using this
  rintro e w1 ⟨rfl, B1⟩
  have hbb := Aside0.mk (((below_alloc (below_alloc (Below.refl _ w) _) _).trans (B1.mono (by simp; omega)) : Below w.heap.size w w1))
  clear B1
  go_wp2
  go_ret
  exact ⟨rfl, hbb.out⟩

set_option maxRecDepth 100000 in
set_option maxHeartbeats 2000000 in
theorem short_main (A : Option Addr) (c : Nat) (G : List (List Int)) (a b : Int) (w : World) (hC : Kd.C kG w A G.length G) (hc : G.length ≤ c) (hs : short G) (hG : okG G) (ha : isNode G a) (hb : isNode G b) :
    Calls Try.prog 24 #[.agg #[.slice A G.length c], .int .i64 a, .int .i64 b] w fun e w' => ∃ vo p, e = .returned vo ∧ spath G a b p ∧ Kd.R (Kd.int .i64) 3 w' 0 (fun k => w.heap.size ≤ k) vo p ∧ Below w.heap.size w w' := by
  have hhas := hasG_two (G := G) (a := a) (b := b) true ⟨fun _ => ⟨hG, ha, hb⟩, fun _ => rfl⟩
  have hX := Aside0.mk (And.intro hC (And.intro hc (And.intro hs (And.intro hG (And.intro ha (And.intro hb hhas))))))
  clear hC hc hs hG ha hb hhas
  go_enter Try.func24, Try.ntmps24
  go_wp2_with fail
  refine (has_any1 A c G (some ⟨w.heap.size + 1, 0, none⟩) 2 [a, b] _ (Kd.C_alloc (Kd.C_alloc hX.out.1 _) _) hX.out.2.1 ?_ (by simp) hX.out.2.2.1 (by simp) true hX.out.2.2.2.2.2.2).mono ?_
  · have := C_new (w.alloc (.cells #[.slice A G.length c] 24)) [a, b] (by simp) _ rfl
    simpa using this
  rintro e w1 ⟨rfl, B1⟩
  obtain ⟨gb, hgb⟩ : ∃ gb, gb = w.heap.size := ⟨_, rfl⟩
  have hbb : Below w.heap.size w w1 := (below_alloc (below_alloc (Below.refl _ w) _) _).trans (B1.mono (by simp; omega))
  have hg1 : w1.heap[gb]? = some (.cells #[.slice A G.length c] 24 (0, 0)) := by
    rw [hgb]
    refine (B1.block _ (by simp; omega)).trans ?_
    rw [Below.heap_alloc _ _ _ (by simp)]
    exact heap_alloc_new w _
  have c0 : w1.cell? ⟨gb, 0, none⟩ = some (.slice A G.length c) := cell_at hg1 rfl
  have H1 := Aside0.mk (And.intro hbb (And.intro hg1 (show w.heap.size ≤ gb by omega)))
  rw [show Value.pointer (some (⟨w.heap.size, 0, none⟩ : Addr)) = Value.pointer (some ⟨gb, 0, none⟩) by rw [hgb]]
  clear B1 hbb hg1 hgb
  go_wp2_with fail
  refine (distances_any A c G b _ (Kd.C_below hX.out.1 H1.out.1) hX.out.2.1 hX.out.2.2.1 hX.out.2.2.2.1 hX.out.2.2.2.2.2.1).mono ?_
  rintro e w2 ⟨Ad, cd, r, rfl, hf, Cd, B2⟩
  have hrl := hf.1
  have han := hX.out.2.2.2.2.1
  have han' := han
  unfold isNode at han'
  have ha1 := han'.1
  have ha2 : a < (r.length : Int) := by rw [hrl]; exact han'.2
  clear han'
  obtain ⟨fd, eA, a0⟩ := Kd.at_int Cd a ha1 ha2
  subst eA
  rw [distOf_rd r a ha1 ha2] at a0
  have hg2 : w2.heap[gb]? = some (.cells #[.slice A G.length c] 24 (0, 0)) := (B2.block gb (blk_lt' H1.out.2.1)).trans H1.out.2.1
  have hb2 := H1.out.1.trans (B2.mono H1.out.1.size)
  obtain ⟨fa, hfa⟩ : ∃ fa, distOf r a = fa := ⟨_, rfl⟩
  rw [hfa] at a0
  have H2 := Aside0.mk (And.intro hf (And.intro Cd (And.intro hg2 (And.intro hb2 (And.intro han hfa)))))
  clear hf Cd B2 hg2 hb2 c0 hfa han
  by_cases hneg : fa < 0
  · have hsp : spath G a b [] := .inl ⟨hX.out.2.2.2.1, hX.out.2.2.2.2.1, hX.out.2.2.2.2.2.1, r, H2.out.1, by unfold pathL; rw [H2.out.2.2.2.2.2, if_pos hneg]⟩
    have hsp' := Aside0.mk hsp
    clear hsp
    go_wp2
    go_ret
    exact ⟨_, _, rfl, hsp'.out, Kd.R_nil _ _ _ _ _, H2.out.2.2.2.1⟩
  · have hsp : spath G a b (Grf.path (adj G) (distOf r) fa.toNat a) := .inl ⟨hX.out.2.2.2.1, hX.out.2.2.2.2.1, hX.out.2.2.2.2.2.1, r, H2.out.1, by unfold pathL; rw [H2.out.2.2.2.2.2, if_neg hneg]⟩
    have hsp' := Aside0.mk hsp
    have hfl := Far_lt hX.out.2.2.2.1 H2.out.1 H2.out.2.2.2.2.1
    rw [H2.out.2.2.2.2.2] at hfl
    clear hsp
    obtain ⟨tot, htot⟩ : ∃ tot, Grf.path (adj G) (distOf r) fa.toNat a = tot := ⟨_, rfl⟩
    rw [htot] at hsp'
    have hI0 : Aside0 (PS2 G r tot w2 (w2.alloc (.cells #[.int .i64 a] 3)) (.slice (some ⟨w2.heap.size, 0, none⟩) [a].length 1) [a] a fa.toNat) := ⟨⟨Kd.R_mono (own_one w2 a) (fun k hk => by omega), below_alloc (Below.refl _ _) _, H2.out.2.2.2.2.1, by rw [H2.out.2.2.2.2.2]; omega, by rw [List.singleton_append, path_cons]; exact htot, by rw [List.length_singleton]; omega⟩⟩
    clear htot hfl
    go_wp2_with fail
    go_loopg [8, 9] fa.toNat (fun d v8 v9 wi => ∃ (out : List Int) (n : Int) (Ao : Option Addr) (co : Nat), v8 = .slice Ao out.length co ∧ v9 = .int .i64 n ∧ Aside0 (PS2 G r tot w2 wi (.slice Ao out.length co) out n d))
    case atStart => exact ⟨[a], a, some ⟨w2.heap.size, 0, none⟩, 1, rfl, rfl, hI0⟩
    case round =>
      obtain ⟨out, n, Ao, co, rfl, rfl, hJ⟩ := hrel
      clear hI0
      by_cases hnb : n = b
      · have h0 := (hJ.out.zero H2.out.1).1 hnb
        have htot : out = tot := by
          have h1 := hJ.out.eq
          rw [h0] at h1
          simpa [Grf.path] using h1
        have hE := Aside0.mk (And.intro htot (And.intro hJ.out.row (H2.out.2.2.2.1.trans (hJ.out.below.mono H2.out.2.2.2.1.size))))
        have x1 : (n != b) = false := by simp [hnb]
        have x2 : (n == b) = true := by simp [hnb]
        clear h0 htot hJ
        go_wp2
        go_ret
        refine ⟨_, out, rfl, by rw [hE.out.1]; exact hsp'.out, Kd.R_mono hE.out.2.1 (fun k hk => Nat.le_trans H2.out.2.2.2.1.size hk), hE.out.2.2⟩
      · have h0 : ¬ gk = 0 := fun e => hnb ((hJ.out.zero H2.out.1).2 e)
        obtain ⟨d, rfl⟩ : ∃ d, gk = d + 1 := ⟨gk - 1, by omega⟩
        have hdd : d < d + 1 := by omega
        have x1 : (n != b) = true := by simp [hnb]
        have x2 : (n == b) = false := by simp [hnb]
        have hnn := hJ.out.node
        have hnn' := hnn
        unfold isNode at hnn'
        have hn1 := hnn'.1
        have hn2 := hnn'.2
        have hrl := H2.out.1.1
        have hn3 : n < (r.length : Int) := by rw [hrl]; exact hn2
        have hfar := hJ.out.far
        obtain ⟨fn, hfn⟩ : ∃ fn, distOf r n = fn := ⟨_, rfl⟩
        rw [hfn] at hfar
        have hlen := hJ.out.len
        have hob : out.length + 1 ≤ 100000 := by omega
        have hfb : 0 < fn ∧ fn ≤ 70000 := by omega
        obtain ⟨row, hrow⟩ : ∃ row, adj G n = row := ⟨_, rfl⟩
        have hrw : row.length < 4611686018427387904 := by rw [← hrow]; exact hX.out.2.2.1.2 _ (adj_mem hnn)
        have hY := Aside0.mk (And.intro hnn (And.intro hrow (And.intro hfn (And.intro hfar hfb))))
        obtain ⟨nn, hnnx⟩ : ∃ nn, Grf.near (distOf r) fn row (-1) = nn := ⟨_, rfl⟩
        have hnr : Grf.near (distOf r) fn (row.drop 0) (-1) = nn := by rw [List.drop_zero]; exact hnnx
        have cg := cell_at (j := 0) ((hJ.out.below.block gb (blk_lt' H2.out.2.2.1)).trans H2.out.2.2.1) rfl
        obtain ⟨gd, Ar, cr, eG, r0, rl, rC⟩ := at_L1 (Kd.C_below hX.out.1 (H2.out.2.2.2.1.trans (hJ.out.below.mono H2.out.2.2.2.1.size))) n hn1 hn2
        have hrow9 : rd_L1 G n = row := hrow
        rw [hrow9] at r0 rl rC
        subst eG
        have hI1 : Aside0 (PS2 G r tot w2 wr (.slice Ao out.length co) out n (d + 1) ∧ Grf.near (distOf r) fn (row.drop 0) (-1) = nn ∧ Kd.C (Kd.int .i64) wr Ar row.length row) := ⟨hJ.out, hnr, rC⟩
        have hnn9 := Aside0.mk hnnx
        have hnb' := Aside0.mk hnb
        clear hnn hnn' hfn hfar hfb hrow hrow9 hnr hnnx rC hJ hlen hrl h0 hnb
        go_wp2_with fail
        go_loopg [10, 39] row.length (fun q v10 v39 wi => ∃ (j : Nat) (nx : Int), j + q = row.length ∧ v10 = .int .i64 nx ∧ v39 = .int .i64 (j : Int) ∧ Aside0 (PS2 G r tot w2 wi (.slice Ao out.length co) out n (d + 1) ∧ Grf.near (distOf r) fn (row.drop j) nx = nn ∧ Kd.C (Kd.int .i64) wi Ar row.length row))
        case atStart => exact ⟨0, -1, by omega, rfl, rfl, hI1⟩
        case round =>
          obtain ⟨j, nx, hj, rfl, rfl, hJ⟩ := hrel
          clear hI1 cg r0
          by_cases hlt : j < row.length
          · have hlti : (j : Int) < row.length := by omega
            obtain ⟨gk1, rfl⟩ : ∃ q, gk = q + 1 := ⟨gk - 1, by omega⟩
            have hj1 : j + 1 + gk1 = row.length := by omega
            have hgk1 : gk1 < gk1 + 1 := by omega
            obtain ⟨rd0, eR, s0⟩ := Kd.at_int hJ.out.2.2 (j : Int) (by omega) hlti
            rw [rd_get row j hlt, Int.toNat_natCast] at s0
            subst eR
            have hsn : isNode G row[j] := okG.adj hX.out.2.2.2.1 hY.out.1 (by rw [hY.out.2.1]; exact List.getElem_mem hlt)
            have hre := hJ.out.2.1
            rw [List.drop_eq_getElem_cons hlt, Grf.near] at hre
            obtain ⟨s, hs⟩ : ∃ s, s = row[j] := ⟨_, rfl⟩
            rw [← hs] at s0 hsn hre
            unfold isNode at hsn
            have hs1 := hsn.1
            have hs2 : s < (G.length : Int) := hsn.2
            have hb9 := hJ.out.1.below
            obtain ⟨fd1, eF, f0⟩ := Kd.at_int (Kd.C_below H2.out.2.1 hb9) s hs1 (by rw [H2.out.1.1]; exact hs2)
            obtain ⟨fd2, eF2, f1⟩ := Kd.at_int (Kd.C_below H2.out.2.1 hb9) n hn1 hn3
            rw [distOf_rd r s hs1 (by rw [H2.out.1.1]; exact hs2)] at f0
            rw [distOf_rd r n hn1 hn3, hY.out.2.2.1] at f1
            injection eF with eF
            subst eF
            injection eF2 with eF2
            subst eF2
            obtain ⟨fs, hfs⟩ : ∃ fs, distOf r s = fs := ⟨_, rfl⟩
            rw [hfs] at f0 hre
            have hwn : IntKind.i64.wrap (fn - 1) = fn - 1 := by have := hY.out.2.2.2.2; simp [IntKind.wrap, IntKind.signed, IntKind.bits]; omega
            have hwn2 : wrap64 (fn - 1) = fn - 1 := by have := hY.out.2.2.2.2; unfold wrap64; omega
            have hN : ∀ q, PS2 G r tot w2 (wr.drewN q) (.slice Ao out.length co) out n (d + 1) ∧ Kd.C (Kd.int .i64) (wr.drewN q) (some rd0) row.length row := fun q => ⟨hJ.out.1.step (pw_below_drewN (Below.refl _ _) _), Kd.C_drewN hJ.out.2.2 _⟩
            have hN' := Aside0.mk hN
            clear hN hfs hs hsn hb9 hJ
            by_cases hE : fs = fn - 1
            · have e1 : (fs == fn - 1) = true := by simp [hE]
              have e2 : (fs != fn - 1) = false := by simp [hE]
              by_cases hng : nx < 0
              · rw [if_pos ⟨hE, .inl hng⟩] at hre
                clear hE
                have hre' := Aside0.mk hre
                clear hre
                go_wp2_with fail
                go_quiet (fail)
                go_wp2_with fail
                go_roundg gk1
                case rel => exact ⟨j + 1, s, hj1, rfl, by go_num, (hN'.out _).1, hre'.out, (hN'.out _).2⟩
                case measure => exact hgk1
              · by_cases hls : s < nx
                · rw [if_pos ⟨hE, .inr hls⟩] at hre
                  clear hE
                  have hre' := Aside0.mk hre
                  clear hre
                  go_wp2_with fail
                  go_quiet (fail)
                  go_wp2_with fail
                  go_roundg gk1
                  case rel => exact ⟨j + 1, s, hj1, rfl, by go_num, (hN'.out _).1, hre'.out, (hN'.out _).2⟩
                  case measure => exact hgk1
                · rw [if_neg (fun h9 => h9.2.elim hng hls)] at hre
                  clear hE
                  have hre' := Aside0.mk hre
                  clear hre
                  go_wp2_with fail
                  go_quiet (fail)
                  go_wp2_with fail
                  go_roundg gk1
                  case rel => exact ⟨j + 1, nx, hj1, rfl, by go_num, (hN'.out _).1, hre'.out, (hN'.out _).2⟩
                  case measure => exact hgk1
            · have e1 : (fs == fn - 1) = false := by simp [hE]
              have e2 : (fs != fn - 1) = true := by simp [hE]
              rw [if_neg (fun h9 => hE h9.1)] at hre
              clear hE
              have hre' := Aside0.mk hre
              clear hre
              go_wp2_with fail
              go_quiet (fail)
              go_wp2_with fail
              go_roundg gk1
              case rel => exact ⟨j + 1, nx, hj1, rfl, by go_num, (hN'.out _).1, hre'.out, (hN'.out _).2⟩
              case measure => exact hgk1
          · have hre := hJ.out.2.1
            rw [List.drop_eq_nil_of_le (by omega), Grf.near] at hre
            subst hre
            have hnx := H2.out.1.2.next (okG.cl hX.out.2.2.2.1) (fun a ha => ((mem_nodes G a).1 ha).1) ((mem_nodes G n).2 hY.out.1) (by rw [hY.out.2.2.1]; exact hY.out.2.2.2.2.1)
            rw [hY.out.2.2.1, hY.out.2.1, hnn9.out] at hnx
            have hnxn : isNode G nx := okG.adj hX.out.2.2.2.1 hY.out.1 (by rw [hY.out.2.1]; exact hnx.1)
            have hfd : distOf r nx = d := by rw [hnx.2.1]; have := hY.out.2.2.2.1; omega
            have heq : out ++ [nx] ++ (Grf.path (adj G) (distOf r) d nx).tail = tot := by
              have h1 := hJ.out.1.eq
              rw [Grf.path, List.tail_cons, hY.out.2.2.1, hY.out.2.1, hnn9.out] at h1
              rw [List.append_assoc, List.singleton_append, path_cons]
              exact h1
            have hlen := hJ.out.1.len
            have hZ := Aside0.mk (And.intro hJ.out.1.row (And.intro hJ.out.1.below (And.intro hnxn (And.intro hfd (And.intro heq (show (out ++ [nx]).length + d ≤ 70000 by rw [List.length_append, List.length_singleton]; omega))))))
            clear hnx hnxn hfd heq hlen hJ
            go_wp2_with (at_builtin; refine Kd.R_append (Kd.int .i64) (w0 := wr) 0 (by rfl) (.tmp 65) (.tmp 67) 36 3 (.int .i64 0) 8 (by rfl) Try.underlying36 info3 rfl (by decide) (by decide) (.slice Ao out.length co) out nx [.int .i64 nx] (fun k => w2.heap.size ≤ k) (fun _ => False) (by rfl) (by rfl) rfl (fun _ h => h.elim) (fun k hk => Nat.le_trans hZ.out.2.1.size hk) hZ.out.1 ((Kp.refl (fun _ => False) wr).belowB (fun _ h => h.elim) (Nat.zero_le _)) (Nat.zero_le _) (by omega) ?_; intro v1 wa hRA hBA hgA hatA; obtain ⟨A3, c3, hv, _, _⟩ := Kd.R_reads hRA; subst hv; have hKA : Kp (fun k => w2.heap.size ≤ k) wr wa := (Kp.refl _ wr).grown hgA (fun k hk => .inl (hZ.out.1.1 k hk)); have hW := Aside0.mk (And.intro hRA (hZ.out.2.1.trans (hKA.belowB (fun k hk => hk) hZ.out.2.1.size))); clear hRA hBA hgA hatA hKA)
            have hI : Aside0 (PS2 G r tot w2 wa (.slice A3 (out ++ [nx]).length c3) (out ++ [nx]) nx d) := ⟨⟨hW.out.1, hW.out.2, hZ.out.2.2.1, hZ.out.2.2.2.1, hZ.out.2.2.2.2.1, hZ.out.2.2.2.2.2⟩⟩
            clear hZ hW
            go_roundg d
            case rel => exact ⟨out ++ [nx], nx, A3, c3, by simp, rfl, hI⟩
            case measure => exact hdd
theorem short_any (A : Option Addr) (c : Nat) (G : List (List Int)) (a b : Int) (w : World) (hC : Kd.C kG w A G.length G) (hc : G.length ≤ c) (hs : short G) :
    Calls Try.prog 24 #[.agg #[.slice A G.length c], .int .i64 a, .int .i64 b] w fun e w' => ∃ Ap cp p, e = .returned (.slice Ap p.length cp) ∧ p.length ≤ cp ∧ spath G a b p ∧ Kd.C (Kd.int .i64) w' Ap p.length p ∧ Below w.heap.size w w' := by
  by_cases h : chk G = 0 ∧ isNode G a ∧ isNode G b
  · refine (short_main A c G a b w hC hc hs h.1 h.2.1 h.2.2).mono ?_
    rintro e w' ⟨vo, p, rfl, hp, hR, hb⟩
    obtain ⟨A1, c1, rfl, h1, hC1⟩ := Kd.R_reads hR
    exact ⟨A1, c1, p, rfl, h1, hp, hC1, hb⟩
  · refine (short_no A c G a b w hC hc hs h).mono ?_
    rintro e w' ⟨rfl, hb⟩
    obtain ⟨A1, c1, e1, h1, hC1⟩ := Kd.R_reads (Kd.R_nil (Kd.int .i64) 3 w' 0 (fun _ => True))
    injection e1 with e1 e2 e3
    subst e1
    exact ⟨none, 0, [], rfl, Nat.le_refl _, .inr ⟨h, rfl⟩, hC1, hb⟩
end Go.Proofs.Ytjkclhpibielfaa
