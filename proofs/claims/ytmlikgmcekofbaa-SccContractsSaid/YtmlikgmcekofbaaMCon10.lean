import Derived.Test.YtmlikgmcekofbaaRows
import Derived.WalkKit
import Derived.ProofKit
import Derived.OpenShut
import Derived.SizedLaws
import Derived.Deep.Slices
import Derived.Test.YtmlikgmcekofbaaMCon9
section
/- scc: OnCycle. -/
set_option linter.unusedVariables false
set_option linter.unusedSimpArgs false
set_option linter.unusedSectionVars false
namespace Go.Proofs.Ytmlikgmcekofbaa
open Go.RowKit Go.Proofs.YtmlikgmcekofbaaW.PrintWords Go.Proofs.Ytmlikgmcekofbaa.PDigraphTells Mem

/-- Whether z, of part k, is on a cycle. -/
def onF (G L : List (List Int)) (k : Nat) (z : Int) : Bool := decide (1 < (L.getD k []).length) || decide (z ∈ adj G z)
/-- What OnCycle hands back. -/
def ONC (G : List (List Int)) (w : World) (e : Ending) (w' : World) : Prop := ∃ A c L l, e = .returned (.slice A l.length c) ∧ Kd.C Kd.bool w' A l.length l ∧ l.length ≤ c ∧ IsC (cleanG G) L ∧ IX L G.length false (onF G L) L.length 0 l ∧ L.length ≤ G.length ∧ Below w.heap.size w w'
theorem own_rawB {w : World} {b n : Nat} {l : List Bool} {ok : Nat → Prop} (h : w.heap[b]? = some (.cells (aB l) 4 (0, 0))) (hn : l.length = n) (hm : n ≤ 1000000) (hok : ok b) : Kd.R Kd.bool 4 w 0 ok (.slice (some ⟨b, 0, none⟩) n n) l := by
  subst hn
  refine Kd.R_of_own (enc := Value.bool) (h1 := fun _ => rfl) ⟨by simp [encs], .inr ⟨b, l.length, aB l, rfl, Nat.zero_le _, h, Nat.le_refl _, by unfold maxLen; omega, by simp [aB], ?_⟩⟩ (fun k hk => by simp only [Value.ownBlock, Option.some.injEq] at hk; rw [← hk]; exact hok)
  simp only [aB, encs]
  exact List.take_of_length_le (by simp)
theorem readsB_raw {w : World} {b n : Nat} {l : List Bool} (h : w.heap[b]? = some (.cells (aB l) 4 (0, 0))) (hn : l.length = n) (hm : n ≤ 1000000) : Kd.C Kd.bool w (some ⟨b, 0, none⟩) n l := by
  have := (Kd.R_reads' (own_rawB (ok := fun _ => True) h hn hm trivial)).2.2
  rw [hn] at this
  exact this
set_option maxRecDepth 100000 in
set_option maxHeartbeats 8000000 in
theorem onc_any (A : Option Addr) (c : Nat) (G : List (List Int)) (w : World) (hC : Kd.C kG w A G.length G) (hc : G.length ≤ c) (hG : Sm G) :
    Calls Try.prog 15 #[.agg #[.slice A G.length c]] w (ONC G w) := by
  have hX := Aside0.mk (And.intro hC (And.intro hc hG))
  have B0 : Below w.heap.size w (w.alloc (.cells #[.slice A G.length c] 24)) := below_alloc (Below.refl _ w) _
  have z0 : (w.alloc (.cells #[.slice A G.length c] 24)).heap[w.heap.size]? = some (.cells #[.slice A G.length c] 24 (0, 0)) := heap_alloc_new w _
  have hm := fun w => make_runB G.length (by have := hG.n; omega) w
  have hnn := hG.n
  have hX0 := Aside0.mk (And.intro B0 (And.intro z0 hm))
  clear hC hc hG B0 z0 hm
  go_enter Try.func15, Try.ntmps15
  go_wp2_with fail
  refine (comps_any A c G _ (Kd.C_below hX.out.1 hX0.out.1) hX.out.2.1 hX.out.2.2).mono ?_
  rintro e w2 ⟨A2, c2, L, rfl, hLL, hIs, hLn, B2⟩
  have c0 : w2.cell? ⟨w.heap.size, 0, none⟩ = some (.slice A G.length c) := cell_at ((B2.block _ (blk_lt' hX0.out.2.1)).trans hX0.out.2.1) rfl
  have hB2 := hX0.out.1.trans (B2.mono hX0.out.1.size)
  by_cases hL0 : L.length = 0
  · obtain ⟨rfl, rfl⟩ := hLL.nil hL0
    obtain rfl : L = [] := List.length_eq_zero_iff.1 hL0
    have hG0 := hIs.none_
    rw [cleanG_len] at hG0
    have hF : ONC G w (.returned (.slice none 0 0)) w2 := ⟨none, 0, [], [], rfl, (Kd.R_reads' (Kd.R_nil Kd.bool 4 w2 0 (fun _ => True))).2.2, Nat.le_refl _, hIs, ⟨by simp [hG0], fun k hk => by simp at hk⟩, by simp, hB2⟩
    have hF' := Aside0.mk hF
    have hq := fun w => eql_nil none 0 0 w
    simp only [Option.isNone_none] at hq
    clear hF hLL hIs hX hX0 hB2 c0
    go_wp2
    go_ret
    exact hF'.out
  · obtain ⟨ad, rfl⟩ := hLL.pos (by omega)
    have hmm := hX0.out.2.2
    have hK := Aside0.mk (And.intro hLL.C (And.intro hIs (And.intro hB2 (And.intro hLn ((B2.block _ (blk_lt' hX0.out.2.1)).trans hX0.out.2.1)))))
    have hLm : L.length ≤ 65536 := by omega
    obtain ⟨bo, hbo⟩ : ∃ bo, w2.heap.size = bo := ⟨_, rfl⟩
    have hI0 : Aside0 ((w2.alloc (.cells (aB (List.replicate G.length false)) 4)).heap[bo]? = some (.cells (aB (List.replicate G.length false)) 4 (0, 0)) ∧ Below bo w2 (w2.alloc (.cells (aB (List.replicate G.length false)) 4)) ∧ IX L G.length false (onF G L) 0 0 (List.replicate G.length false)) := by
      rw [← hbo]
      exact ⟨heap_alloc_new w2 _, below_alloc (Below.refl _ w2) _, IX.start _ _ _ _ _⟩
    have hbo' := Aside0.mk hbo
    have hq := fun w => eql_nil (some ad) L.length c2 w
    simp only [Option.isNone_some] at hq
    clear hLL hIs hB2 hX0 hLn hL0 hbo
    go_wp2_with fail
    rw [hbo'.out]
    clear hmm hq c0
    obtain ⟨w3, hw3⟩ : ∃ w3, w2.alloc (.cells (aB (List.replicate G.length false)) 4) = w3 := ⟨_, rfl⟩
    rw [hw3] at hI0 ⊢
    clear hw3
    go_loopg [19] L.length (fun z v wi => ∃ (i : Nat) (l : List Bool), i + z = L.length ∧ v = .int .i64 (i : Int) ∧ Aside0 (wi.heap[bo]? = some (.cells (aB l) 4 (0, 0)) ∧ Below bo w2 wi ∧ IX L G.length false (onF G L) i 0 l))
    case atStart => exact ⟨0, _, by omega, rfl, hI0⟩
    case round =>
      obtain ⟨i, l, hi, rfl, hJ⟩ := hrel
      clear hI0
      by_cases hlt : i < L.length
      · have hlti : (i : Int) < (L.length : Int) := by omega
        obtain ⟨gk1, rfl⟩ : ∃ z, gk = z + 1 := ⟨gk - 1, by omega⟩
        have hw2 : wrap64 ((i : Int) + 1) = ((i + 1 : Nat) : Int) := by unfold wrap64; omega
        have hb9 := Aside0.mk (And.intro (show i + 1 + gk1 = L.length by omega) (And.intro (show gk1 < gk1 + 1 by omega) hw2))
        obtain ⟨ad2, A3, c3, eA, r0, rl, rC⟩ := at_L1 hK.out.1 (i : Int) (Int.natCast_nonneg _) hlti
        injection eA with eA
        subst eA
        rw [rd1_get L i hlt, Int.toNat_natCast] at r0
        rw [rd1_get L i hlt] at rl rC
        have hbl : Below w2.heap.size w2 wr := by have h9 := hJ.out.2.1; rw [← hbo'.out] at h9; exact h9
        replace r0 := (Below.cell hbl (World.block_lt_of_cell? _ _ r0)).trans r0
        have hrn := hK.out.2.1.row_len hlt
        rw [cleanG_len] at hrn
        obtain ⟨row, hrow⟩ : ∃ row, L[i] = row := ⟨_, rfl⟩
        rw [hrow] at r0 rl rC hrn
        have hrow' : Aside0 (∃ h : i < L.length, L[i] = row) := ⟨hlt, hrow⟩
        have hR := Aside0.mk rC
        have hrn2 : row.length ≤ 65536 := by omega
        have hJ0 : Aside0 (wr.heap[bo]? = some (.cells (aB l) 4 (0, 0)) ∧ Below bo w2 wr ∧ IX L G.length false (onF G L) i 0 l) := hJ
        clear rl rC hrow hJ hw2 hi hbl hlt
        obtain ⟨w4, rfl⟩ : ∃ w4 : World, w4 = wr := ⟨_, rfl⟩
        go_wp2_with fail
        clear r0
        go_loopg [25] row.length (fun z v wi => ∃ (j : Nat) (l : List Bool), j + z = row.length ∧ v = .int .i64 (j : Int) ∧ Aside0 (wi.heap[bo]? = some (.cells (aB l) 4 (0, 0)) ∧ Below bo w2 wi ∧ IX L G.length false (onF G L) i j l))
        case atStart => exact ⟨0, _, by omega, rfl, hJ0⟩
        case round =>
          obtain ⟨j, l2, hj, rfl, hK2⟩ := hrel
          clear hJ0
          by_cases hjt : j < row.length
          · have hjti : (j : Int) < (row.length : Int) := by omega
            obtain ⟨gj1, rfl⟩ : ∃ z, gk = z + 1 := ⟨gk - 1, by omega⟩
            have hw2 : wrap64 ((j : Int) + 1) = ((j + 1 : Nat) : Int) := by unfold wrap64; omega
            have hbl : Below w2.heap.size w2 wr := by have h9 := hK2.out.2.1; rw [← hbo'.out] at h9; exact h9
            obtain ⟨bd, eB, b0⟩ := Kd.at_int (Kd.C_below hR.out hbl) (j : Int) (Int.natCast_nonneg _) hjti
            subst eB
            rw [rd_get row j hjt, Int.toNat_natCast] at b0
            obtain ⟨x, hx⟩ : ∃ x, row[j] = x := ⟨_, rfl⟩
            rw [hx] at b0
            obtain ⟨hil, hrow⟩ := hrow'.out
            have hxn : isNode (cleanG G) x := hK.out.2.1.node hil (by rw [hrow, ← hx]; exact List.getElem_mem hjt)
            have hx0 := hxn.1
            have hx1 := hxn.2
            rw [cleanG_len] at hx1
            have hll := hK2.out.2.2.len
            have y0 := cell_at (j := x.toNat) hK2.out.1 (aB_at hx0 (by rw [hll]; exact hx1))
            have y1 := free_at hK2.out.1 x.toNat
            obtain ⟨bv, hbv⟩ : ∃ bv, onF G L i x = bv := ⟨_, rfl⟩
            have hput : IX L G.length false (onF G L) i (j + 1) (l2.set x.toNat bv) := by
              subst hrow
              have h9 := hK2.out.2.2
              rw [← cleanG_len G] at h9 ⊢
              have := IX.put hK.out.2.1 h9 hil hjt
              rw [hx, hbv] at this
              exact this
            have hbv2 : bv = (decide (1 < row.length) || decide (x ∈ adj G x)) := by
              rw [← hbv]
              unfold onF
              have : L.getD i [] = row := by rw [← hrow]; simp [hil]
              rw [this]
            have hBw : Below w.heap.size w wr := hK.out.2.2.1.trans (hbl.mono hK.out.2.2.1.size)
            obtain ⟨adG, AX, cX, eX, s0, sl, sC⟩ := at_L1 hX.out.1 x hx0 hx1
            subst eX
            replace s0 := (Below.cell hBw (World.block_lt_of_cell? _ _ s0)).trans s0
            have g0 := cell_at (j := 0) ((hbl.block _ (blk_lt' hK.out.2.2.2.2)).trans hK.out.2.2.2.2) rfl
            obtain ⟨rx, hrx⟩ : ∃ rx, rd_L1 G x = rx := ⟨_, rfl⟩
            have hrx2 : adj G x = rx := hrx
            rw [hrx] at s0 sl sC
            rw [hrx2] at hbv2
            have hrxl : rx.length < 1000000000 := by
              have h1 := row_le_edges G rx (by rw [← hrx]; exact adj_mem ⟨hx0, hx1⟩)
              have := hX.out.2.2.e
              omega
            have hSX := Aside0.mk (And.intro (Kd.C_below sC hBw) (And.intro sl hrxl))
            have hE : Aside0 ((wr.setCell ⟨bo, x.toNat, none⟩ (.bool bv)).heap[bo]? = some (.cells (aB (l2.set x.toNat bv)) 4 (0, 0)) ∧ Below bo w2 (wr.setCell ⟨bo, x.toNat, none⟩ (.bool bv)) ∧ IX L G.length false (onF G L) i (j + 1) (l2.set x.toNat bv)) :=
              ⟨by rw [set_at hK2.out.1, aB_set], hK2.out.2.1.trans (((Kp.refl (fun k => k = bo) wr).setCell (p := ⟨bo, x.toNat, none⟩) (.inl rfl) _).belowB (fun k hk => Nat.le_of_eq hk.symm) (Nat.le_of_lt (blk_lt' hK2.out.1))), hput⟩
            have hk9 := Aside0.mk (And.intro (show j + 1 + gj1 = row.length by omega) (show gj1 < gj1 + 1 by omega))
            clear hbl hxn hll hput hK2 hil hrow hx hj hjt hBw sC sl hrx hrx2 hrxl hbv
            by_cases hr1 : 1 < row.length
            · have hbt : bv = true := by rw [hbv2, decide_eq_true hr1]; rfl
              subst hbt
              have hr2 : (1 : Int) < (row.length : Int) := by omega
              clear hbv2
              go_wp2_with fail
              go_roundg gj1
              case rel => exact ⟨j + 1, _, hk9.out.1, by go_num, hE⟩
              case measure => exact hk9.out.2
            · have hbt : bv = decide (x ∈ rx) := by rw [hbv2, decide_eq_false hr1]; rfl
              have hr2 : ¬ (1 : Int) < (row.length : Int) := by omega
              have hbt' := Aside0.mk hbt
              clear hbv2 hbt
              go_wp2_with fail
              refine (contains_any AX cX rx x _ hSX.out.1 hSX.out.2.1 hSX.out.2.2).mono ?_
              rintro e' w8 ⟨rfl, nn, rfl⟩
              rw [← hbt'.out]
              have y0' : (wr.drewN nn).cell? ⟨bo, x.toNat, none⟩ = wr.cell? ⟨bo, x.toNat, none⟩ := rfl
              rw [y0] at y0'
              have y1' : (wr.drewN nn).frozen? ⟨bo, x.toNat, none⟩ = wr.frozen? ⟨bo, x.toNat, none⟩ := rfl
              rw [y1] at y1'
              have hE' : Aside0 (((wr.drewN nn).setCell ⟨bo, x.toNat, none⟩ (.bool bv)).heap[bo]? = some (.cells (aB (l2.set x.toNat bv)) 4 (0, 0)) ∧ Below bo w2 ((wr.drewN nn).setCell ⟨bo, x.toNat, none⟩ (.bool bv)) ∧ IX L G.length false (onF G L) i (j + 1) (l2.set x.toNat bv)) := ⟨hE.out.1, ⟨hE.out.2.1.os, hE.out.2.1.tape, hE.out.2.1.output, hE.out.2.1.size, hE.out.2.1.block⟩, hE.out.2.2⟩
              clear hE y0 y1 hSX hbt'
              go_wp2_with fail
              go_roundg gj1
              case rel => exact ⟨j + 1, _, hk9.out.1, by go_num, hE'⟩
              case measure => exact hk9.out.2
          · have hjr : j = row.length := by omega
            have hni : ¬ (j : Int) < (row.length : Int) := by omega
            have hE : Aside0 (wr.heap[bo]? = some (.cells (aB l2) 4 (0, 0)) ∧ Below bo w2 wr ∧ IX L G.length false (onF G L) (i + 1) 0 l2) := by
              obtain ⟨hil, hrow⟩ := hrow'.out
              exact ⟨hK2.out.1, hK2.out.2.1, hK2.out.2.2.row hil (by rw [hrow]; omega)⟩
            have hm9 := hb9.out.2.1
            have hw2 := hb9.out.2.2
            clear hK2 hj hjt hjr
            go_wp2_with fail
            go_roundg gk1
            case rel => exact ⟨i + 1, l2, hb9.out.1, by go_num, hE⟩
            case measure => exact hm9
      · have hin : i = L.length := by omega
        have hni : ¬ (i : Int) < (L.length : Int) := by omega
        have hF : ONC G w (.returned (.slice (some ⟨bo, 0, none⟩) G.length G.length)) wr := by
          have hI := hJ.out.2.2
          rw [hin] at hI
          have hbs := hK.out.2.2.1.size
          rw [hbo'.out] at hbs
          refine ⟨_, _, L, l, by rw [hI.len], ?_, by rw [hI.len]; exact Nat.le_refl _, hK.out.2.1, hI, hK.out.2.2.2.1, hK.out.2.2.1.trans (hJ.out.2.1.mono hbs)⟩
          rw [hI.len]
          exact readsB_raw hJ.out.1 hI.len (by omega)
        have hF' := Aside0.mk hF
        clear hF hJ hK hX hlt hi hin
        go_wp2
        go_ret
        exact hF'.out
end Go.Proofs.Ytmlikgmcekofbaa
end

section
/- What awake answers. -/
set_option linter.unusedVariables false
set_option linter.unusedSimpArgs false
set_option linter.unusedSectionVars false
namespace Go.Proofs.Ytmlikgmcekofbaa
open Go.RowKit Go.Proofs.YtmlikgmcekofbaaW.PrintWords Go.Proofs.Ytmlikgmcekofbaa.PDigraphTells Mem

def exG : List (List Int) := [[1], [0, 2], []]
theorem ex_clean : cleanG exG = exG := by decide
theorem ex_node {x : Int} : isNode exG x ↔ x = 0 ∨ x = 1 ∨ x = 2 := by
  unfold isNode
  rw [show (exG.length : Int) = 3 from rfl]
  omega
theorem ex_r2 {y : Int} (h : Grf.Reach (adj exG) 2 y) : y = 2 := by
  have := h.mem (V := [2]) (fun a ha b hb => by
    obtain rfl : a = 2 := by simpa using ha
    have h0 : adj exG 2 = [] := by decide
    rw [h0] at hb
    exact absurd hb (by simp)) (by simp)
  simpa using this
theorem ex_01 : Grf.Reach (adj exG) 0 1 := .one (by decide)
theorem ex_10 : Grf.Reach (adj exG) 1 0 := .one (by decide)
theorem ex_12 : Grf.Reach (adj exG) 1 2 := .one (by decide)
theorem ex_to {x y : Int} (hx : isNode exG x) (h : Grf.Reach (adj exG) x y) : isNode exG y := by
  have hV : ∀ a ∈ [(0 : Int), 1, 2], ∀ b ∈ adj exG a, b ∈ [(0 : Int), 1, 2] := by decide
  have := h.mem hV (by have := ex_node.1 hx; simpa using this)
  exact ex_node.2 (by simpa using this)
theorem ex_isC : IsC exG [[2], [0, 1]] := by
  refine ⟨fun k hk => ?_, fun x hx => ?_⟩
  · rcases k with _ | _ | k
    · refine ⟨2, by decide, by simp, fun y hy => .inl ?_, fun y hy hlt _ hr => ?_, by simp, fun z => ?_⟩
      · rw [ex_r2 hy]; exact .refl _
      · have h2 : Grf.Reach (adj exG) y 2 := by
          rcases ex_node.1 hy with rfl | rfl | rfl
          · exact ex_01.trans ex_12
          · exact ex_12
          · omega
        rcases hr 2 h2 with h | h
        · have := ex_r2 h; omega
        · simp at h
      · show z ∈ [2] ↔ _
        rw [List.mem_singleton]
        constructor
        · rintro rfl; exact ⟨by decide, .refl _, .refl _⟩
        · intro h; exact ex_r2 h.2.1
    · refine ⟨0, by decide, by simp, fun y hy => ?_, fun y hy hlt _ _ => ?_, by simp, fun z => ?_⟩
      · rcases ex_node.1 (ex_to (by decide) hy) with rfl | rfl | rfl
        · exact .inl (.refl _)
        · exact .inl ex_10
        · exact .inr (by simp)
      · have := hy.1; omega
      · show z ∈ [0, 1] ↔ _
        constructor
        · intro hz
          have : z = 0 ∨ z = 1 := by simpa using hz
          rcases this with rfl | rfl
          · exact ⟨by decide, .refl _, .refl _⟩
          · exact ⟨by decide, ex_01, ex_10⟩
        · rintro ⟨h, h1, h2⟩
          rcases ex_node.1 h with rfl | rfl | rfl
          · simp
          · simp
          · exact absurd (ex_r2 h2) (by decide)
    · simp at hk; omega
  · rcases ex_node.1 hx with rfl | rfl | rfl <;> simp
theorem ex_ix {l : List Int} (h : IX [[2], [0, 1]] 3 0 (fun k _ => (k : Int)) 2 0 l) : l = [1, 1, 0] := by
  refine IX.uniq ex_isC h ⟨rfl, fun k hk z hz _ => ?_⟩
  rcases k with _ | _ | k
  · obtain rfl : z = 2 := by simpa using hz
    rfl
  · have : z = 0 ∨ z = 1 := by simpa using hz
    rcases this with rfl | rfl <;> rfl
  · simp at hk; omega
theorem ex_on {l : List Bool} (h : IX [[2], [0, 1]] 3 false (onF exG [[2], [0, 1]]) 2 0 l) : l = [true, true, false] := by
  refine IX.uniq ex_isC h ⟨rfl, fun k hk z hz _ => ?_⟩
  rcases k with _ | _ | k
  · obtain rfl : z = 2 := by simpa using hz
    decide
  · have : z = 0 ∨ z = 1 := by simpa using hz
    rcases this with rfl | rfl <;> decide
  · simp at hk; omega
theorem ex_sm : Sm exG := ⟨by decide, ⟨by decide, by decide⟩, by decide⟩

theorem lit_ints (w : World) (cs : Array Value) (e : Nat) (xs : List Int) (g : Nat) (hg : w.heap.size = g) (hcs : cs.toList = xs.map (Value.int .i64)) (hm : xs.length ≤ 1000) : Kd.C (Kd.int .i64) (w.alloc (.cells cs e (0, 0))) (some ⟨g, 0, none⟩) xs.length xs := by
  subst hg
  refine ⟨rfl, by omega, fun _ => ⟨_, rfl, fun j p hj => ⟨[.int .i64 p], rfl, rfl, fun i u hu => ?_⟩⟩⟩
  rcases i with _ | i
  · simp at hu
    subst hu
    rw [show (Kd.int IntKind.i64).sz = 1 from rfl, Nat.mul_one, Nat.add_zero, show (⟨w.heap.size, 0, none⟩ : Addr).add j = ⟨w.heap.size, j, none⟩ from by rcases j with _ | j <;> simp [Addr.add]]
    refine cell_at (heap_alloc_new w _) ?_
    rw [← Array.getElem?_toList, hcs]
    simp [hj]
  · simp at hu
theorem lit_bools (w : World) (cs : Array Value) (e : Nat) (xs : List Bool) (g : Nat) (hg : w.heap.size = g) (hcs : cs.toList = xs.map Value.bool) (hm : xs.length ≤ 1000) : Kd.C Kd.bool (w.alloc (.cells cs e (0, 0))) (some ⟨g, 0, none⟩) xs.length xs := by
  subst hg
  refine ⟨rfl, by omega, fun _ => ⟨_, rfl, fun j p hj => ⟨[.bool p], rfl, rfl, fun i u hu => ?_⟩⟩⟩
  rcases i with _ | i
  · simp at hu
    subst hu
    rw [show Kd.bool.sz = 1 from rfl, Nat.mul_one, Nat.add_zero, show (⟨w.heap.size, 0, none⟩ : Addr).add j = ⟨w.heap.size, j, none⟩ from by rcases j with _ | j <;> simp [Addr.add]]
    refine cell_at (heap_alloc_new w _) ?_
    rw [← Array.getElem?_toList, hcs]
    simp [hj]
  · simp at hu
theorem lit_rows (w : World) (cs : Array Value) (e : Nat) (xs : List (List Int)) (g : Nat) (hg : w.heap.size = g) (hm : xs.length ≤ 1000) (h : ∀ (j : Nat) (x : List Int), xs[j]? = some x → ∃ A c, cs[j]? = some (.slice A x.length c) ∧ x.length ≤ c ∧ Kd.C (Kd.int .i64) w A x.length x) : Kd.C kG (w.alloc (.cells cs e (0, 0))) (some ⟨g, 0, none⟩) xs.length xs := by
  subst hg
  refine ⟨rfl, by omega, fun _ => ⟨_, rfl, fun j p hj => ?_⟩⟩
  obtain ⟨A, c, h1, h2, h3⟩ := h j p hj
  refine ⟨[.slice A p.length c], rfl, ⟨A, c, rfl, h2, Kd.C_alloc h3 _⟩, fun i u hu => ?_⟩
  rcases i with _ | i
  · simp at hu
    subst hu
    rw [show (Kd.slice 3 (Kd.int IntKind.i64)).sz = 1 from rfl, Nat.mul_one, Nat.add_zero, show (⟨w.heap.size, 0, none⟩ : Addr).add j = ⟨w.heap.size, j, none⟩ from by rcases j with _ | j <;> simp [Addr.add]]
    exact cell_at (heap_alloc_new w _) h1
  · simp at hu
theorem ex_lit (w : World) : Kd.C kG (((w.alloc (.cells #[.int .i64 1] 3)).alloc (.cells #[.int .i64 0, .int .i64 2] 3)).alloc (.cells #[.slice (some ⟨w.heap.size, 0, none⟩) 1 1, .slice (some ⟨w.heap.size + 1, 0, none⟩) 2 2, .slice none 0 0] 29)) (some ⟨w.heap.size + 1 + 1, 0, none⟩) 3 exG := by
  refine lit_rows _ _ _ exG _ (by simp) (by decide) fun j x hj => ?_
  rcases j with _ | _ | _ | j
  · obtain rfl : [1] = x := by simpa [exG] using hj
    exact ⟨_, _, rfl, Nat.le_refl _, Kd.C_alloc (lit_ints w _ 3 [1] _ rfl rfl (by decide)) _⟩
  · obtain rfl : [0, 2] = x := by simpa [exG] using hj
    exact ⟨_, _, rfl, Nat.le_refl _, lit_ints _ _ 3 [0, 2] _ (by simp) rfl (by decide)⟩
  · obtain rfl : [] = x := by simpa [exG] using hj
    exact ⟨none, 0, rfl, Nat.le_refl _, Kd.C_nil _ _⟩
  · simp [exG] at hj
/-- slices.Equal against a row written just now. -/
theorem same_lit {A : Option Addr} {c n : Nat} {x : List Int} {w : World} (hA : Kd.C (Kd.int .i64) w A n x) (hc : n ≤ c) (hn : x.length = n) (cs : Array Value) (hcs : cs.toList = x.map (Value.int .i64)) (hl : x.length ≤ 1000) :
    Calls Try.prog 11 #[.slice A n c, .slice (some ⟨w.heap.size, 0, none⟩) n n] (w.alloc (.cells cs 3)) fun e w' => e = .returned (.bool true) ∧ Below w.heap.size w w' := by
  subst hn
  refine (equal_any A c x (some ⟨w.heap.size, 0, none⟩) x.length x _ (Kd.C_alloc hA _) hc (lit_ints w cs 3 x _ rfl hcs hl) (Nat.le_refl _) (by omega)).mono ?_
  rintro e w1 ⟨rfl, ⟨m, rfl⟩⟩
  exact ⟨by simp, pw_below_drewN (below_alloc (Below.refl _ w) _) _⟩
theorem same_litB {A : Option Addr} {c n : Nat} {x : List Bool} {w : World} (hA : Kd.C Kd.bool w A n x) (hc : n ≤ c) (hn : x.length = n) (cs : Array Value) (hcs : cs.toList = x.map Value.bool) (hl : x.length ≤ 1000) :
    Calls Try.prog 14 #[.slice A n c, .slice (some ⟨w.heap.size, 0, none⟩) n n] (w.alloc (.cells cs 4)) fun e w' => e = .returned (.bool true) ∧ Below w.heap.size w w' := by
  subst hn
  refine (equalB_any A c x (some ⟨w.heap.size, 0, none⟩) x.length x _ (Kd.C_alloc hA _) hc (lit_bools w cs 4 x _ rfl hcs hl) (Nat.le_refl _) (by omega)).mono ?_
  rintro e w1 ⟨rfl, ⟨m, rfl⟩⟩
  exact ⟨by simp, pw_below_drewN (below_alloc (Below.refl _ w) _) _⟩
/-- The example in memory. -/
def EX (gb : Nat) (w w' : World) : Prop := Below w.heap.size w w' ∧ Kd.C kG w' (some ⟨gb + 2, 0, none⟩) 3 exG ∧ w'.heap[gb + 3]? = some (.cells #[.slice (some ⟨gb + 2, 0, none⟩) 3 3] 24 (0, 0))
theorem EX.below {gb : Nat} {w w1 w2 : World} (h : EX gb w w1) (hb : Below w1.heap.size w1 w2) : EX gb w w2 :=
  ⟨h.1.trans (hb.mono h.1.size), Kd.C_below h.2.1 hb, (hb.block _ (blk_lt' h.2.2)).trans h.2.2⟩
theorem EX.cell {gb : Nat} {w w' : World} (h : EX gb w w') : w'.cell? ⟨gb + 3, 0, none⟩ = some (.slice (some ⟨gb + 2, 0, none⟩) 3 3) := cell_at h.2.2 rfl
theorem ex_mk (w : World) {gb : Nat} (hgb : w.heap.size = gb) : ∃ w1, ((((w.alloc (.cells #[.int .i64 1] 3)).alloc (.cells #[.int .i64 0, .int .i64 2] 3)).alloc (.cells #[.slice (some ⟨gb, 0, none⟩) 1 1, .slice (some ⟨gb + 1, 0, none⟩) 2 2, .slice none 0 0] 29)).alloc (.cells #[.slice (some ⟨gb + 2, 0, none⟩) 3 3] 24)) = w1 ∧ EX gb w w1 := by
  subst hgb
  refine ⟨_, rfl, below_alloc (below_alloc (below_alloc (below_alloc (Below.refl _ w) _) _) _) _, Kd.C_alloc (ex_lit w) _, ?_⟩
  have := heap_alloc_new (((w.alloc (.cells #[.int .i64 1] 3)).alloc (.cells #[.int .i64 0, .int .i64 2] 3)).alloc (.cells #[.slice (some ⟨w.heap.size, 0, none⟩) 1 1, .slice (some ⟨w.heap.size + 1, 0, none⟩) 2 2, .slice none 0 0] 29)) (.cells #[.slice (some ⟨w.heap.size + 2, 0, none⟩) 3 3] 24)
  simpa using this
theorem ex_comps {w : World} {A : Option Addr} (h : Kd.C kG w A 3 exG) : Calls Try.prog 9 #[.agg #[.slice A 3 3]] w fun e w' => ∃ ad c, e = .returned (.slice (some ad) 2 c) ∧ Kd.C kG w' (some ad) 2 [[2], [0, 1]] ∧ Below w.heap.size w w' := by
  refine (comps_any A 3 exG w h (Nat.le_refl _) ex_sm).mono ?_
  rintro e w' ⟨A2, c2, L, rfl, hL, hI, _, B⟩
  rw [ex_clean] at hI
  obtain rfl := hI.uniq ex_isC
  obtain ⟨ad, rfl⟩ := hL.pos (by decide)
  exact ⟨ad, c2, rfl, hL.C, B⟩
theorem ex_index {w : World} {A : Option Addr} (h : Kd.C kG w A 3 exG) : Calls Try.prog 12 #[.agg #[.slice A 3 3]] w fun e w' => ∃ A2 c, e = .returned (.slice A2 3 c) ∧ Kd.C (Kd.int .i64) w' A2 3 [1, 1, 0] ∧ 3 ≤ c ∧ Below w.heap.size w w' := by
  refine (index_any A 3 exG w h (Nat.le_refl _) ex_sm).mono ?_
  rintro e w' ⟨A2, c2, L, l, rfl, hC, hc, hI, hX, _, B⟩
  rw [ex_clean] at hI
  obtain rfl := hI.uniq ex_isC
  obtain rfl := ex_ix hX
  exact ⟨A2, c2, rfl, hC, hc, B⟩
theorem ex_onc {w : World} {A : Option Addr} (h : Kd.C kG w A 3 exG) : Calls Try.prog 15 #[.agg #[.slice A 3 3]] w fun e w' => ∃ A2 c, e = .returned (.slice A2 3 c) ∧ Kd.C Kd.bool w' A2 3 [true, true, false] ∧ 3 ≤ c ∧ Below w.heap.size w w' := by
  refine (onc_any A 3 exG w h (Nat.le_refl _) ex_sm).mono ?_
  rintro e w' ⟨A2, c2, L, l, rfl, hC, hc, hI, hX, _, B⟩
  rw [ex_clean] at hI
  obtain rfl := hI.uniq ex_isC
  obtain rfl := ex_on hX
  exact ⟨A2, c2, rfl, hC, hc, B⟩
theorem bl1' {w w1 w2 : World} (h : Below w.heap.size w w1) (k : Below w1.heap.size w1 w2) : Below w.heap.size w w2 := h.trans (k.mono h.size)
set_option maxRecDepth 100000 in
set_option maxHeartbeats 8000000 in
theorem awake_any (w : World) : Calls Try.prog 8 #[] w fun e w' => e = .returned (.bool true) ∧ Below w.heap.size w w' := by
  go_enter Try.func8, Try.ntmps8
  go_upto_region 2 with fail
  obtain ⟨gb, hgb⟩ : ∃ gb, w.heap.size = gb := ⟨_, rfl⟩
  obtain ⟨w1, hw1, hE⟩ := ex_mk w hgb
  rw [hgb]
  rw [show gb + 1 + 1 + 1 = gb + 3 from rfl, show gb + 1 + 1 = gb + 2 from rfl]
  rw [hw1]
  clear hw1 hgb
  replace hE := Aside0.mk hE
  refine Held.begin_ (S := fun W1 => W1.cell? ⟨gb + 3, 0, none⟩ = some (.slice (some ⟨gb + 2, 0, none⟩) 3 3)) 4 (by kernel_rfl) (by kernel_rfl) ?_ (fun hHeld => ?_)
  · exact hE.out.cell
  simp only [List.length_cons, List.length_nil, Nat.reduceAdd, List.replicate, Array.replicate]
  refine Held.take_ (v := ?vv1206500) 0 rfl rfl (by kernel_rfl) (by kernel_rfl) (fun _ _ _ h => h) (by assumption) (Or.inl ⟨by rfl, ?hy1206500⟩) ?_
  case hy1206500 => intro w hSw; (try dsimp only at hSw); (go_simp <;> with_reducible rfl)
  try simp only [Act.put, List.setIfInBounds_toArray, List.set_cons_zero, List.set_cons_succ]
  refine Held.take_ (v := ?vv1206502) 2 rfl rfl (by kernel_rfl) (by kernel_rfl) (fun _ _ _ h => h) (by assumption) (Or.inl ⟨by rfl, ?hy1206502⟩) ?_
  case hy1206502 => intro w hSw; (try dsimp only at hSw); (go_simp <;> with_reducible rfl)
  try simp only [Act.put, List.setIfInBounds_toArray, List.set_cons_zero, List.set_cons_succ]
  refine Held.step_ 1 rfl rfl (by kernel_rfl) (fun K hK => ?_)
  go_simp
  go_at_call 9
  refine (ex_comps (Kd.C_below hE.out.2.1 (below_drew (Below.refl _ _)))).mono ?_
  rintro e' w2 ⟨ad, c2, rfl, hC2, Bx⟩
  have E2 := Aside0.mk (And.intro ((hE.out.below (below_drew (Below.refl _ _))).below Bx) hC2)
  have f2 := E2.out.1.cell
  clear Bx hC2 hE
  go_wp2_with fail
  refine hK.out _ _ f2 (fun hHeld2 => ?_)
  clear hK K
  try simp only [Act.put, List.setIfInBounds_toArray, List.set_cons_zero, List.set_cons_succ]
  refine Held.step_ 3 rfl rfl (by kernel_rfl) (fun K hK => ?_)
  go_simp
  go_at_call 15
  refine (ex_onc E2.out.1.2.1).mono ?_
  rintro e' w3 ⟨A3, c3, rfl, hC3, hc3, Bx⟩
  have E3 := Aside0.mk (And.intro (E2.out.1.below Bx) (And.intro (Kd.C_below E2.out.2 Bx) (And.intro hC3 hc3)))
  have f3 := E3.out.1.cell
  clear Bx hC3 hc3 E2
  go_wp2_with fail
  refine hK.out _ _ f3 (fun hHeld3 => ?_)
  clear hK K
  try simp only [Act.put, List.setIfInBounds_toArray, List.set_cons_zero, List.set_cons_succ]
  refine Held.rest_ (by kernel_rfl) ?_
  simp only [List.drop_succ_cons, List.drop_zero]
  clear hHeld hHeld2 hHeld3 f2 f3
  obtain ⟨ad', A0, c0, eA, x0, hl0, C0⟩ := at_L1 E3.out.2.1 (0 : Int) (by decide) (by decide)
  injection eA with eA
  subst eA
  obtain ⟨ad', A1, c1, eA, x1, hl1, C1⟩ := at_L1 E3.out.2.1 (1 : Int) (by decide) (by decide)
  injection eA with eA
  subst eA
  have E4 := Aside0.mk (And.intro E3.out.1 (And.intro E3.out.2.2 (And.intro (show Kd.C (Kd.int .i64) w3 A0 1 [2] from C0) (And.intro (show 1 ≤ c0 from hl0) (And.intro (show Kd.C (Kd.int .i64) w3 A1 2 [0, 1] from C1) (And.intro (show 2 ≤ c1 from hl1) (show w3.cell? ⟨ad.block, ad.off + 1, none⟩ = some (.slice A1 2 c1) from x1)))))))
  replace x0 : w3.cell? ad = some (.slice A0 1 c0) := by
    have h9 : ad.add 0 = ad := by simp [Addr.add]
    rw [← h9]
    exact x0
  clear hl0 hl1 C0 C1 E3 x1
  go_wp2_with fail
  refine (same_lit E4.out.2.2.1 E4.out.2.2.2.1 rfl _ rfl (by decide)).mono ?_
  rintro e' w4 ⟨rfl, Bx⟩
  have E5 := Aside0.mk (And.intro (E4.out.1.below Bx) (And.intro (Kd.C_below E4.out.2.1.1 Bx) (And.intro E4.out.2.1.2 (And.intro (Kd.C_below E4.out.2.2.2.2.1 Bx) E4.out.2.2.2.2.2.1))))
  have x1 := (Below.cell Bx (World.block_lt_of_cell? _ _ E4.out.2.2.2.2.2.2)).trans E4.out.2.2.2.2.2.2
  clear Bx E4 x0
  go_wp2_with fail
  refine (same_lit E5.out.2.2.2.1 E5.out.2.2.2.2 rfl _ rfl (by decide)).mono ?_
  rintro e' w5 ⟨rfl, Bx⟩
  have E6 := Aside0.mk (And.intro (E5.out.1.below Bx) (And.intro (Kd.C_below E5.out.2.1 Bx) E5.out.2.2.1))
  have f6 := E6.out.1.cell
  clear Bx E5 x1
  go_wp2_with fail
  refine (ex_index E6.out.1.2.1).mono ?_
  rintro e' w6 ⟨A6, c6, rfl, hC6, hc6, Bx⟩
  have E7 := Aside0.mk (And.intro (E6.out.1.below Bx) (And.intro (Kd.C_below E6.out.2.1 Bx) (And.intro E6.out.2.2 (And.intro hC6 hc6))))
  clear Bx E6 f6 hC6 hc6
  go_wp2_with fail
  refine (same_lit E7.out.2.2.2.1 E7.out.2.2.2.2 rfl _ rfl (by decide)).mono ?_
  rintro e' w7 ⟨rfl, Bx⟩
  have E8 := Aside0.mk (And.intro (E7.out.1.below Bx) (And.intro (Kd.C_below E7.out.2.1 Bx) E7.out.2.2.1))
  clear Bx E7
  go_wp2_with fail
  refine (same_litB E8.out.2.1 E8.out.2.2 rfl _ rfl (by decide)).mono ?_
  rintro e' w8 ⟨rfl, Bx⟩
  have E9 := Aside0.mk (E8.out.1.below Bx).1
  clear Bx E8
  go_wp2
  go_ret
  exact ⟨rfl, E9.out⟩
end Go.Proofs.Ytmlikgmcekofbaa
end

section
/- An argument's reading opened by its kind: whole numbers, bools, strings, slices and structs of these, to any depth. -/
set_option linter.unusedVariables false
set_option linter.unusedSimpArgs false
namespace Go.Proofs.Ytmlikgmcekofbaa.Opens
open Go.RowKit Go.Proofs.YtmlikgmcekofbaaW.PrintWords Go.Proofs.Ytmlikgmcekofbaa.Mem Go.Deep

variable {H : Type} {enc : TypeId × Value → H} {P : Program} {W : World}

/-- Whatever cells read as a datum of type t hold a value of kind d, which is good. -/
structure Op {α : Type} (enc : TypeId × Value → H) (P : Program) (W : World) (t : TypeId) (d : Kd α) (good : α → Prop) : Prop where
  op : ∀ {fuel : Nat} {cs : List Value} {x : DataW H × List MemPlace}, DataW.trod enc P W 0 (fun _ => true) true fuel t cs = some x → (∀ n ∈ x.1.weights P t, n ≤ reachBytes) → ∃ y, d.K W y cs ∧ good y

theorem Op.int {t : TypeId} {k : IntKind} (ht : P.underlying t = some (.int k)) : Op enc P W t (Kd.int k) (fun n => (Lit.int k n).wf = true) :=
  ⟨fun h _ => by
    obtain ⟨n, rfl, _, hw⟩ := DataW.trod_int ht h
    exact ⟨n, rfl, hw⟩⟩
theorem Op.bool {t : TypeId} (ht : P.underlying t = some .bool) : Op enc P W t Kd.bool (fun _ => True) :=
  ⟨fun h _ => by
    obtain ⟨n, rfl, _⟩ := DataW.trod_bool ht h
    exact ⟨n, rfl, trivial⟩⟩
theorem Op.string {t : TypeId} (ht : P.underlying t = some .string) : Op enc P W t Kd.string (fun s => s.size ≤ 140737488351232) :=
  ⟨fun h hw => by
    obtain ⟨s, rfl, rfl, _⟩ := DataW.trod_string ht h
    exact ⟨s, rfl, by simpa [DataW.weights, reachBytes] using hw⟩⟩

theorem cell_of_cells {w : World} {a : Addr} {n : Nat} {cs : List Value} (h : w.cells? 0 a n = some cs) : cs.length = n ∧ ∀ i u, cs[i]? = some u → w.cell? (a.add i) = some u := by
  unfold World.cells? at h
  rw [if_pos (Nat.zero_le _)] at h
  have key : ∀ (l : List Nat) (cs : List Value), l.mapM (fun i => w.cell? (a.add i)) = some cs → cs.length = l.length ∧ ∀ (i j : Nat) u, l[i]? = some j → cs[i]? = some u → w.cell? (a.add j) = some u := by
    intro l
    induction l with
    | nil =>
      intro cs h
      simp at h
      subst h
      simp
    | cons b r ih =>
      intro cs h
      simp only [List.mapM_cons, Option.bind_eq_bind, Option.bind_eq_some_iff] at h
      obtain ⟨v, hv, ys, hys, he⟩ := h
      obtain rfl : v :: ys = cs := by simpa using he
      obtain ⟨h1, h2⟩ := ih ys hys
      refine ⟨by simp [h1], fun i j u hi hu => ?_⟩
      cases i with
      | zero => simp at hi hu; subst hi; subst hu; exact hv
      | succ i => exact h2 i j u (by simpa using hi) (by simpa using hu)
  obtain ⟨h1, h2⟩ := key _ _ h
  refine ⟨by simpa using h1, fun i u hu => h2 i i u ?_ hu⟩
  have hl : i < cs.length := (List.getElem?_eq_some_iff.1 hu).1
  rw [h1] at hl
  simp at hl
  simp [hl]

theorem weights_all {e : TypeId} : ∀ (l : List (DataW H)) (n : Nat) (i : Nat) (d : DataW H), l[i]? = some d → n ∈ d.weights P e → n ∈ DataW.weightsAll P e l
  | [], _, _, _, h, _ => by simp at h
  | d0 :: r, n, 0, d, h, hn => by
    simp at h
    subst h
    rw [DataW.weightsAll]
    exact List.mem_append_left _ hn
  | d0 :: r, n, i + 1, d, h, hn => by
    rw [DataW.weightsAll]
    exact List.mem_append_right _ (weights_all r n i d (by simpa using h) hn)

theorem build {β : Type} {n : Nat} {p : Nat → β → Prop} (h : ∀ i, i < n → ∃ y, p i y) : ∃ xs : List β, xs.length = n ∧ ∀ i, i < n → ∃ y, xs[i]? = some y ∧ p i y := by
  induction n with
  | zero => exact ⟨[], rfl, fun i hi => by omega⟩
  | succ m ih =>
    obtain ⟨xs, h1, h2⟩ := ih (fun i hi => h i (by omega))
    obtain ⟨y, g⟩ := h m (by omega)
    refine ⟨xs ++ [y], by simp [h1], fun i hi => ?_⟩
    by_cases e : i < m
    · obtain ⟨y', h3, g'⟩ := h2 i e
      exact ⟨y', by rw [List.getElem?_append_left (by omega)]; exact h3, g'⟩
    · obtain rfl : i = m := by omega
      exact ⟨y, by rw [← h1]; simp, g⟩

theorem Op.slice {α : Type} {t e : TypeId} {d : Kd α} {good : α → Prop} {B : Nat} (h : Op enc P W e d good) (ht : P.underlying t = some (.slice e)) (hc : P.cellsOf e = d.sz) (hB : P.bytesOf e = B) :
    Op enc P W t (Kd.slice e d) (fun xs => xs.length * B ≤ 140737488351232 ∧ ∀ x ∈ xs, good x) := by
  refine ⟨fun {fuel cs x} hx hw => ?_⟩
  rcases DataW.trod_slice ht hx with ⟨rfl, rfl⟩ | ⟨a, len, cap, elems, rest, n, rfl, rfl, rfl, _, hl, hm, hel, hcell, _, _⟩
  · exact ⟨[], ⟨none, 0, rfl, Nat.le_refl _, Kd.C_nil d W⟩, by simp, fun x hx => by simp at hx⟩
  · have hsz : (elems.length + rest.length) * B ≤ 140737488351232 := by
      have := hw ((elems.length + rest.length) * P.bytesOf e) (by simp [DataW.weights, ht])
      simpa [hB, reachBytes] using this
    have each : ∀ i, i < len → ∃ y c, c.length = d.sz ∧ (∀ j u, c[j]? = some u → W.cell? ((a.add (i * d.sz)).add j) = some u) ∧ d.K W y c ∧ good y := by
      intro i hi
      have h1 := hcell i hi
      have hi2 : i < elems.length := by omega
      rw [List.getElem?_eq_getElem hi2, Option.bind_eq_some_iff] at h1
      obtain ⟨c, hc1, hc2⟩ := h1
      obtain ⟨y, hy, hg⟩ := h.op hc2 (fun n hn => hw n (by
        simp only [DataW.weights, ht]
        refine List.mem_cons_of_mem _ (List.mem_append_left _ (weights_all _ n i elems[i].1 ?_ hn))
        simp [hi2]))
      rw [hc] at hc1
      obtain ⟨g1, g2⟩ := cell_of_cells hc1
      exact ⟨y, c, g1, g2, hy, hg⟩
    have hxs : ∃ xs : List α, xs.length = len ∧ ∀ i, i < len → ∃ y, xs[i]? = some y ∧ ∃ c, c.length = d.sz ∧ (∀ j u, c[j]? = some u → W.cell? ((a.add (i * d.sz)).add j) = some u) ∧ d.K W y c ∧ good y := build each
    obtain ⟨xs, h1, h2⟩ := hxs
    refine ⟨xs, ⟨some a, cap, by rw [h1], by omega, ?_⟩, ?_, ?_⟩
    · refine ⟨rfl, by rw [h1]; unfold maxLen at hm; omega, fun _ => ⟨a, rfl, fun j p hj => ?_⟩⟩
      have hjl : j < len := by
        have := (List.getElem?_eq_some_iff.1 hj).1
        omega
      obtain ⟨y, e1, c, g1, g2, g3, g4⟩ := h2 j hjl
      rw [hj] at e1
      injection e1 with e1
      subst e1
      refine ⟨c, g1, g3, fun i u hu => ?_⟩
      have := g2 i u hu
      rwa [Go.Deep.add_add] at this
    · refine Nat.le_trans (Nat.mul_le_mul_right _ ?_) hsz
      omega
    · intro x hx
      obtain ⟨i, hi, rfl⟩ := List.getElem_of_mem hx
      obtain ⟨y, e1, c, g1, g2, g3, g4⟩ := h2 i (by omega)
      rw [List.getElem?_eq_getElem hi] at e1
      injection e1 with e1
      exact e1 ▸ g4

/-- The fields fs of a struct, from the cell at off on, hold a value of kind d. -/
structure Fs {α : Type} (enc : TypeId × Value → H) (P : Program) (W : World) (fs : List Field) (off : Nat) (d : Kd α) (good : α → Prop) : Prop where
  op : ∀ {fuel : Nat} {cs : List Value} {xs : List (DataW H × List MemPlace)}, xs.length = fs.length → (∀ (i : Nat) (f : Field), fs[i]? = some f → DataW.trod enc P W 0 (fun _ => true) true fuel f.type ((cs.drop f.offset).take (P.cellsOf f.type)) = xs[i]?) →
    (∀ n ∈ DataW.weightsEach P (fs.map (·.type)) (xs.map (·.1)), n ≤ reachBytes) → ∃ y, d.K W y ((cs.drop off).take d.sz) ∧ good y

theorem Fs.one {α : Type} {f : Field} {d : Kd α} {good : α → Prop} (h : Op enc P W f.type d good) (hc : P.cellsOf f.type = d.sz) : Fs enc P W [f] f.offset d good := by
  refine ⟨fun {fuel cs xs} hl hx hw => ?_⟩
  match xs, hl with
  | [x], _ =>
    have h1 := hx 0 f rfl
    obtain ⟨y, hy, hg⟩ := h.op h1 (fun n hn => hw n (by simp [DataW.weightsEach, hn]))
    rw [hc] at hy
    exact ⟨y, hy, hg⟩
theorem Fs.cons {α β : Type} {f : Field} {fs : List Field} {a : Kd α} {b : Kd β} {ga : α → Prop} {gb : β → Prop} {off : Nat} (h : Op enc P W f.type a ga) (k : Fs enc P W fs off b gb) (hc : P.cellsOf f.type = a.sz) (ho : off = f.offset + a.sz) :
    Fs enc P W (f :: fs) f.offset (Kd.pair a b) (fun x => ga x.1 ∧ gb x.2) := by
  refine ⟨fun {fuel cs xs} hl hx hw => ?_⟩
  match xs, hl with
  | x :: r, hl =>
    have h1 := hx 0 f rfl
    obtain ⟨y, hy, hg⟩ := h.op h1 (fun n hn => hw n (by simp [DataW.weightsEach, hn]))
    obtain ⟨z, hz, hgz⟩ := k.op (cs := cs) (xs := r) (by simpa using hl) (fun i f' hf => by simpa using hx (i + 1) f' (by simpa using hf)) (fun n hn => hw n (by
      simp only [List.map_cons, DataW.weightsEach]
      exact List.mem_append_right _ hn))
    rw [hc] at hy
    refine ⟨(y, z), ⟨_, _, ?_, hy, hz⟩, hg, hgz⟩
    rw [ho, ← List.drop_drop]
    show List.take (a.sz + b.sz) _ = _
    rw [List.take_add]
theorem Op.struct {α β : Type} {t : TypeId} {fs : Array Field} {l : List Field} {d : Kd α} {good : α → Prop} (h : Fs enc P W l 0 d good) (ht : P.underlying t = some (.struct fs)) (hl : fs.toList = l) (hc : P.cellsOf t = d.sz) (f : β → α) (g : α → β) (hfg : ∀ z, f (g z) = z) :
    Op enc P W t (Kd.iso d f) (fun y => good (f y)) := by
  refine ⟨fun {fuel cs x} hx hw => ?_⟩
  obtain ⟨xs, n, rfl, rfl, hcs, hxl, hall⟩ := DataW.trod_struct ht hx
  obtain ⟨y, hy, hg⟩ := h.op (fuel := n) (cs := cs) (xs := xs) (by rw [← hl]; simpa using hxl) (fun i f' hf => hall i f' (by rw [← hl] at hf; simpa using hf)) (fun n hn => hw n (by simpa [DataW.weights, ht, hl] using hn))
  refine ⟨g y, ?_, by rw [hfg]; exact hg⟩
  show d.K W (f (g y)) cs
  rw [hfg]
  have e : (cs.drop 0).take d.sz = cs := by rw [List.drop_zero, ← hc, ← hcs, List.take_length]
  rwa [e] at hy
theorem Op.imp {α : Type} {t : TypeId} {d : Kd α} {good good' : α → Prop} (h : Op enc P W t d good) (hg : ∀ x, good x → good' x) : Op enc P W t d good' := ⟨fun hx hw => by
  obtain ⟨y, hy, hgy⟩ := h.op hx hw
  exact ⟨y, hy, hg y hgy⟩⟩

/-- An argument that is a struct. -/
theorem Op.arg_agg {α : Type} {t : TypeId} {d : Kd α} {good : α → Prop} {v : Value} {x : DataW H} {p : List MemPlace} (h : Op enc P W t d good) (hv : ∃ cs, v = .agg cs) (hx : DataW.Trod enc P W 0 (fun _ => true) true t v x p)
    (hw : ∀ n ∈ x.weights P t, n ≤ reachBytes) : ∃ y cs, v = .agg cs ∧ d.K W y cs.toList ∧ good y := by
  obtain ⟨cs, rfl⟩ := hv
  obtain ⟨fuel, hf⟩ := hx
  obtain ⟨y, hy, hg⟩ := h.op hf hw
  exact ⟨y, cs, rfl, by simpa [Value.cells] using hy, hg⟩
theorem weight_of {ts : List TypeId} {ds : List (DataW H)} (h : (DataW.weightsEach P ts ds).all (· ≤ reachBytes) = true) {j : Nat} {t : TypeId} {d : DataW H} (ht : ts[j]? = some t) (hd : ds[j]? = some d) : ∀ n ∈ d.weights P t, n ≤ reachBytes :=
  fun n hn => by simpa using List.all_eq_true.1 h n (DataW.weights_mem_each ht hd n hn)
end Go.Proofs.Ytmlikgmcekofbaa.Opens
end

section
/- What the laws' walks share: the argument, the world. -/
set_option linter.unusedVariables false
set_option linter.unusedSimpArgs false
set_option linter.unusedSectionVars false
namespace Go.Proofs.Ytmlikgmcekofbaa
open Go.RowKit Go.Proofs.YtmlikgmcekofbaaW.PrintWords Go.Proofs.Ytmlikgmcekofbaa.PDigraphTells Mem

theorem field_succs (A : Option Addr) (n c : Nat) (w : World) : (Instr.field 24 (.agg #[.slice A n c]) 0).run Try.prog w = .ok (.slice A n c) w := by kernel_rfl
def fSuccs : Field := { name := "Succs", type := 22, offset := 0, embedded := false, tag := "", pkgPath := "", byteOffset := 0 }
def kGr : Kd (List (List Int)) := Kd.iso (Kd.slice 29 kG) (fun x : List (List Int) => x)
/-- What an argument's weights say about a graph. -/
structure big (G : List (List Int)) : Prop where
  len : G.length * 24 ≤ 140737488351232
  row : ∀ l ∈ G, l.length * 8 ≤ 140737488351232
theorem graph_op {H : Type} {enc : TypeId × Value → H} {W : World} : Opens.Op enc Try.prog W 24 kGr big :=
  (Opens.Op.struct (Opens.Fs.one (f := fSuccs) (Opens.Op.slice (B := 24) (Opens.Op.slice (B := 8) (Opens.Op.int Try.underlying3) Try.underlying29 (by kernel_rfl) (by kernel_rfl)) Try.underlying22 (by kernel_rfl) (by kernel_rfl)) (by kernel_rfl)) Try.underlying24 rfl (by kernel_rfl) (fun x : List (List Int) => x) (fun x => x) (fun _ => rfl)).imp
    (fun G h => ⟨h.1, fun l hl => (h.2 l hl).1⟩)
theorem big.short {G : List (List Int)} (h : big G) : short G := ⟨by have := h.len; omega, fun l hl => by have := h.row l hl; omega⟩
theorem graph_arg {cs : Array Value} {G : List (List Int)} {w : World} (h : kGr.K w G cs.toList) : ∃ A c, cs = #[.slice A G.length c] ∧ G.length ≤ c ∧ Kd.C kG w A G.length G := by
  obtain ⟨A, c, h1, h2, h3⟩ := h
  exact ⟨A, c, by have := congrArg List.toArray h1; simpa using this, h2, h3⟩
theorem Sml.sm {G : List (List Int)} (h : Sml G) (hs : short G) : Sm G := ⟨by have := h.1; omega, hs, by have := h.2; omega⟩
/-- The law's world: its argument lies at gb, the graph's rows are there, and nothing below has changed. -/
structure Gw (w wi : World) (gb : Nat) (A : Option Addr) (c : Nat) (G : List (List Int)) : Prop where
  b : Below w.heap.size w wi
  C : Kd.C kG wi A G.length G
  g : wi.heap[gb]? = some (.cells #[.slice A G.length c] 24 (0, 0))
theorem Gw.start {w : World} {A : Option Addr} {c : Nat} {G : List (List Int)} (h : Kd.C kG w A G.length G) : Gw w (w.alloc (.cells #[.slice A G.length c] 24 (0, 0))) w.heap.size A c G :=
  ⟨below_alloc (Below.refl _ _) _, Kd.C_alloc h _, heap_alloc_new w _⟩
theorem Gw.step {w wi wj : World} {gb : Nat} {A : Option Addr} {c : Nat} {G : List (List Int)} (h : Gw w wi gb A c G) (hb : Below wi.heap.size wi wj) : Gw w wj gb A c G :=
  ⟨h.b.trans (hb.mono h.b.size), Kd.C_below h.C hb, (hb.block gb (blk_lt' h.g)).trans h.g⟩
theorem Gw.drewN {w wi : World} {gb : Nat} {A : Option Addr} {c : Nat} {G : List (List Int)} (h : Gw w wi gb A c G) (n : Nat) : Gw w (wi.drewN n) gb A c G :=
  h.step (pw_below_drewN (Below.refl _ _) _)
theorem Gw.drew {w wi : World} {gb : Nat} {A : Option Addr} {c : Nat} {G : List (List Int)} (h : Gw w wi gb A c G) : Gw w wi.drew gb A c G :=
  h.step (below_drew (Below.refl _ _))
theorem Gw.cell {w wi : World} {gb : Nat} {A : Option Addr} {c : Nat} {G : List (List Int)} (h : Gw w wi gb A c G) : wi.cell? ⟨gb, 0, none⟩ = some (.slice A G.length c) := cell_at h.g rfl
end Go.Proofs.Ytmlikgmcekofbaa
end

section
/- Plain facts for SccOrders and SccContracts. -/
set_option linter.unusedVariables false
set_option linter.unusedSimpArgs false
set_option linter.unusedSectionVars false
namespace Go.Proofs.Ytmlikgmcekofbaa
open Go.RowKit Go.Proofs.YtmlikgmcekofbaaW.PrintWords Go.Proofs.Ytmlikgmcekofbaa.PDigraphTells Mem

section
variable {G L : List (List Int)} {ix : List Int}
theorem rd_getD {l : List Int} {x : Int} : rd l x = l.getD x.toNat 0 := rfl
theorem nodes_nodup (G : List (List Int)) : (nodes G).Nodup := by
  unfold nodes List.Nodup
  rw [List.pairwise_map]
  exact List.nodup_range.imp (fun h e => h (by omega))
theorem IX.rd_ (hI : IsC G L) {n : Nat} (h : IX L n 0 (fun k _ => (k : Int)) L.length 0 ix) {k : Nat} (hk : k < L.length) {z : Int} (hz : z ∈ L[k]) : rd ix z = k := by
  rw [rd_getD]
  exact h.at_ k hk z hz (.inl hk)
theorem IsC.part (hI : IsC G L) {z : Int} (hz : isNode G z) : ∃ k, ∃ h : k < L.length, z ∈ L[k] := by
  obtain ⟨part, hp, hz⟩ := List.mem_flatten.1 (hI.all _ hz)
  obtain ⟨p, hpl, rfl⟩ := List.getElem_of_mem hp
  exact ⟨p, hpl, hz⟩
/-- No edge leads to a later part. -/
theorem IsC.edge (hI : IsC G L) (hG : okG G) {x y : Int} (hx : isNode G x) (hy : y ∈ adj G x) {j k : Nat} (hj : j < L.length) (hk : k < L.length) (zx : x ∈ L[k]) (zy : y ∈ L[j]) : j ≤ k := by
  obtain ⟨r, r1, r2, r3, r4, r5⟩ := hI.st k hk
  have hrx := ((r5.mem x).1 zx).2
  have hyn := hG.adj hx hy
  rcases r3 y (hrx.1.trans (.one hy)) with h | h
  · have : y ∈ L[k] := (r5.mem y).2 ⟨hyn, hrx.1.trans (.one hy), h⟩
    exact Nat.le_of_eq (hI.inj hj hk this zy)
  · obtain ⟨part, hp, hz⟩ := List.mem_flatten.1 h
    obtain ⟨i, hi, rfl⟩ := List.mem_take_iff_getElem.1 hp
    have hi2 : i < L.length := by omega
    have := hI.inj hj hi2 hz zy
    omega
theorem IsC.nodup (hI : IsC G L) : L.flatten.Nodup := by
  unfold List.Nodup
  rw [List.pairwise_flatten]
  refine ⟨fun l hl => ?_, ?_⟩
  · obtain ⟨k, hk, rfl⟩ := List.getElem_of_mem hl
    obtain ⟨_, _, _, _, _, h⟩ := hI.st k hk
    exact h.srt.imp (fun h => by omega)
  · rw [List.pairwise_iff_getElem]
    intro i j hi hj hij a ha b hb e
    subst e
    exact hI.disj hij hj hb ha
theorem IsC.sum (hI : IsC G L) : (L.map List.length).sum = G.length := by
  rw [← List.length_flatten]
  refine Nat.le_antisymm ?_ ?_
  · have := Grf.Tj.nodup_len _ (nodes G) hI.nodup (fun x hx => by
      obtain ⟨l, hl, hx⟩ := List.mem_flatten.1 hx
      obtain ⟨k, hk, rfl⟩ := List.getElem_of_mem hl
      exact (mem_nodes G x).2 (hI.node hk hx))
    rwa [nodes_len] at this
  · have := Grf.Tj.nodup_len (nodes G) L.flatten (nodes_nodup G) (fun x hx => hI.all x ((mem_nodes G x).1 hx))
    rwa [nodes_len] at this
theorem IsC.srt (hI : IsC G L) {k : Nat} (hk : k < L.length) {i j : Nat} (hij : i < j) (hj : j < L[k].length) : L[k][i] < L[k][j] := by
  obtain ⟨_, _, _, _, _, h⟩ := hI.st k hk
  exact List.pairwise_iff_getElem.1 h.srt i j (by omega) hj hij
theorem sum_take (L : List (List Int)) {i : Nat} (h : i < L.length) : ((L.take (i + 1)).map List.length).sum = ((L.take i).map List.length).sum + L[i].length := by
  rw [List.take_succ_eq_append_getElem h, List.map_append, List.sum_append]; simp
end
end Go.Proofs.Ytmlikgmcekofbaa
end

section
/- Plain facts for SccContracts: the graph of the components. -/
set_option linter.unusedVariables false
set_option linter.unusedSimpArgs false
set_option linter.unusedSectionVars false
namespace Go.Proofs.Ytmlikgmcekofbaa
open Go.RowKit Go.Proofs.YtmlikgmcekofbaaW.PrintWords Go.Proofs.Ytmlikgmcekofbaa.PDigraphTells Mem

/-- The graph of the components while row i is read up to j: edges lead to earlier parts alone. -/
structure CT (G : List (List Int)) (m : Nat) (o : List (List Int)) (i j : Nat) : Prop where
  len : o.length = m
  lt : ∀ c : Int, 0 ≤ c → c < m → ∀ z ∈ rd_L1 o c, 0 ≤ z ∧ z < c
  ed : edges o ≤ edges (G.take i) + j
section
variable {G o : List (List Int)} {m i j : Nat}
theorem CT.start (G : List (List Int)) (m : Nat) : CT G m (List.replicate m []) 0 0 := by
  refine ⟨by simp, fun c h0 h1 z hz => ?_, ?_⟩
  · have e : c = ((c.toNat : Nat) : Int) := (Int.toNat_of_nonneg h0).symm
    rw [e, rd1_get _ c.toNat (by simp; omega)] at hz
    simp at hz
  · unfold edges; simp
theorem CT.skip (h : CT G m o i j) : CT G m o i (j + 1) := ⟨h.len, h.lt, by have := h.ed; omega⟩
theorem edges_tk' (G : List (List Int)) {i : Nat} (h : i < G.length) : edges (G.take (i + 1)) = edges (G.take i) + G[i].length := by
  unfold edges
  exact sum_take G h
theorem CT.row (h : CT G m o i j) (hi : i < G.length) (hj : j ≤ G[i].length) : CT G m o (i + 1) 0 := ⟨h.len, h.lt, by have := h.ed; rw [edges_tk' G hi]; omega⟩
theorem edges_put : ∀ (o : List (List Int)) (k : Nat) (h : k < o.length) (b : Int), edges (o.set k (o[k] ++ [b])) = edges o + 1
  | [], k, h, b => by simp at h
  | l :: o, 0, h, b => by unfold edges; simp; omega
  | l :: o, k + 1, h, b => by
    have := edges_put o k (by simpa using h) b
    unfold edges at this ⊢
    simp only [List.set_cons_succ, List.map_cons, List.sum_cons, List.getElem_cons_succ]
    omega
theorem CT.add (h : CT G m o i j) {a b : Int} (a0 : 0 ≤ a) (a1 : a < m) (b0 : 0 ≤ b) (hb : b < a) : CT G m (o.set a.toNat (rd_L1 o a ++ [b])) i (j + 1) := by
  have hal : a.toNat < o.length := by rw [h.len]; omega
  have ea : a = ((a.toNat : Nat) : Int) := (Int.toNat_of_nonneg a0).symm
  have er : rd_L1 o a = o[a.toNat] := by have h9 := rd1_get o a.toNat hal; rw [← ea] at h9; exact h9
  refine ⟨by rw [List.length_set]; exact h.len, fun c c0 c1 z hz => ?_, ?_⟩
  · have hcl : c.toNat < o.length := by rw [h.len]; omega
    have ec : c = ((c.toNat : Nat) : Int) := (Int.toNat_of_nonneg c0).symm
    have hc := h.lt c c0 c1
    rw [ec, rd1_get _ c.toNat (by rw [List.length_set]; exact hcl), List.getElem_set] at hz
    rw [ec, rd1_get o c.toNat hcl] at hc
    split at hz
    · rename_i e
      have eac : a = c := by omega
      rw [er] at hz
      rcases List.mem_append.1 hz with hz | hz
      · have hca := h.lt a a0 a1 z (by rw [er]; exact hz)
        exact ⟨hca.1, by omega⟩
      · simp at hz; omega
    · have := hc z hz
      omega
  · rw [er, edges_put o a.toNat hal b]
    have := h.ed
    omega
theorem CT.row_len (h : CT G m o i j) {c : Int} (c0 : 0 ≤ c) (c1 : c < m) : (rd_L1 o c).length ≤ edges (G.take i) + j := by
  have hcl : c.toNat < o.length := by rw [h.len]; omega
  have ec : c = ((c.toNat : Nat) : Int) := (Int.toNat_of_nonneg c0).symm
  have := row_le_edges o (rd_L1 o c) (by rw [ec, rd1_get _ _ hcl]; exact List.getElem_mem hcl)
  have := h.ed
  omega
/-- The contracted graph. -/
theorem CT.adj_lt (h : CT G m o i j) {x y : Int} (hx : isNode o x) (hy : y ∈ adj o x) : 0 ≤ y ∧ y < x := h.lt x hx.1 (by have := hx.2; rw [h.len] at this; exact this) y hy
theorem CT.clean (h : CT G m o i j) : cleanG o = o := by
  unfold cleanG
  conv => rhs; rw [← List.map_id o]
  refine List.map_congr_left (fun l hl => ?_)
  obtain ⟨k, hk, rfl⟩ := List.getElem_of_mem hl
  show keepN o o[k] = o[k]
  unfold keepN
  rw [List.filter_eq_self]
  intro z hz
  have := h.adj_lt (x := (k : Int)) (y := z) ⟨by omega, by omega⟩ (by unfold adj; rw [rd1_get o k hk]; exact hz)
  exact decide_eq_true ⟨this.1, by omega⟩
theorem CT.reach (h : CT G m o i j) {x y : Int} (hr : Grf.Reach (adj o) x y) (hx : isNode o x) : isNode o y ∧ y ≤ x := by
  induction hr with
  | refl => exact ⟨hx, Int.le_refl _⟩
  | tail _ e ih =>
    obtain ⟨hb, hle⟩ := ih
    have := h.adj_lt hb e
    have hl := hb.2
    exact ⟨⟨this.1, by omega⟩, by omega⟩
theorem CT.single (h : CT G m o i j) {L : List (List Int)} (hI : IsC o L) {k : Nat} (hk : k < L.length) : L[k].length = 1 := by
  obtain ⟨x, x1, x2, x3, x4, x5⟩ := hI.st k hk
  have key : L[k] = [x] := by
    refine x5.uniq ⟨by simp, fun z => ?_⟩
    rw [List.mem_singleton]
    constructor
    · rintro rfl; exact ⟨x1, .refl _, .refl _⟩
    · rintro ⟨hz, h1, h2⟩
      have := (h.reach h1 x1).2
      have := (h.reach h2 hz).2
      omega
  rw [key]
  rfl
theorem CT.comps (h : CT G m o i j) {L : List (List Int)} (hI : IsC o L) : L.length = o.length := by
  have h1 := hI.sum
  have key : ∀ l : List (List Int), (∀ r ∈ l, r.length = 1) → (l.map List.length).sum = l.length := by
    intro l
    induction l with
    | nil => intro _; rfl
    | cons r l ih =>
      intro hr
      simp only [List.map_cons, List.sum_cons, List.length_cons]
      rw [hr r List.mem_cons_self, ih (fun x hx => hr x (List.mem_cons_of_mem _ hx))]
      omega
  rw [key L (fun r hr => by obtain ⟨k, hk, rfl⟩ := List.getElem_of_mem hr; exact h.single hI hk)] at h1
  exact h1
theorem CT.none_ (h : CT G m o i j) {L : List (List Int)} (hI : IsC o L) {on : List Bool} (hx : IX L o.length false (onF o L) L.length 0 on) : decide (true ∈ on) = false := by
  refine decide_eq_false (fun hm => ?_)
  obtain ⟨p, hp, e⟩ := List.getElem_of_mem hm
  have hxn : isNode o (p : Int) := ⟨by omega, by have := hx.len; omega⟩
  obtain ⟨k, hk, hz⟩ := hI.part hxn
  have h1 := hx.at_ k hk _ hz (.inl hk)
  rw [Int.toNat_natCast] at h1
  have h2 : on.getD p false = on[p] := by simp [hp]
  rw [h2, e] at h1
  unfold onF at h1
  have h3 : L.getD k [] = L[k] := by simp [hk]
  rw [h3, h.single hI hk] at h1
  have h4 : (p : Int) ∉ adj o (p : Int) := fun h9 => by have := h.adj_lt hxn h9; omega
  simp [h4] at h1
theorem CT.sm (h : CT G m o i j) (hm : m ≤ 50) (he : edges (G.take i) + j ≤ 1000) : Sm o := by
  have := h.ed
  refine ⟨by rw [h.len]; omega, ⟨by rw [h.len]; omega, fun l hl => ?_⟩, by omega⟩
  have := row_le_edges o l hl
  omega
end
end Go.Proofs.Ytmlikgmcekofbaa
end

section
/- SccContracts: the law's walk. -/
set_option linter.unusedVariables false
set_option linter.unusedSimpArgs false
set_option linter.unusedSectionVars false
namespace Go.Proofs.Ytmlikgmcekofbaa
open Go.RowKit Go.Proofs.YtmlikgmcekofbaaW.PrintWords Go.Proofs.Ytmlikgmcekofbaa.PDigraphTells Mem

/-- The law's world while the graph of the components, at hb, is made: its rows are new since w3. -/
structure CW (w3 wi : World) (hb m : Nat) (B : Option Addr) (cb : Nat) (o : List (List Int)) : Prop where
  b : Below w3.heap.size w3 wi
  h : wi.heap[hb]? = some (.cells #[.slice B m cb] 24 (0, 0))
  s : Kd.S kG 29 wi 0 (fun k => w3.heap.size ≤ k ∧ k ≠ hb) (.slice B m cb) o
  lo : w3.heap.size ≤ hb
theorem CW.step {w3 wi wj : World} {hb m : Nat} {B : Option Addr} {cb : Nat} {o : List (List Int)} (h : CW w3 wi hb m B cb o) (hB : Below wi.heap.size wi wj) : CW w3 wj hb m B cb o :=
  ⟨h.b.trans (hB.mono h.b.size), (hB.block hb (blk_lt' h.h)).trans h.h, Kd.S_below h.s hB, h.lo⟩
theorem CW.cell {w3 wi : World} {hb m : Nat} {B : Option Addr} {cb : Nat} {o : List (List Int)} (h : CW w3 wi hb m B cb o) : wi.cell? ⟨hb, 0, none⟩ = some (.slice B m cb) := cell_at h.h rfl
theorem ty_no {q : Nat} (h : q ∈ 29 :: kG.E) : q ≠ 24 := by
  have : q = 29 ∨ q = 3 := by simpa [Kd.slice, Kd.int, Kd.scalar] using h
  omega
set_option maxRecDepth 100000 in
set_option maxHeartbeats 8000000 in
theorem contracts_walk (cs : Array Value) (G : List (List Int)) (w : World) (hK : kGr.K w G cs.toList) (hg : big G) :
    Calls Try.prog 6 #[.agg cs] w fun e w' => e = .returned (.bool true) ∧ Below w.heap.size w w' := by
  obtain ⟨A, c, rfl, hc, hC⟩ := graph_arg hK
  have hX := Aside0.mk (And.intro hc hg.short)
  have hfl := field_succs
  have H0 := Aside0.mk (Gw.start (c := c) hC)
  clear hK hg hC hc
  have c0 := H0.out.cell
  go_enter Try.func6, Try.ntmps6
  go_wp2_with fail
  obtain ⟨gb, hgb⟩ : ∃ gb, gb = w.heap.size := ⟨_, rfl⟩
  obtain ⟨w1, hw1⟩ : ∃ w1, w1 = w.alloc (.cells #[.slice A G.length c] 24 (0, 0)) := ⟨_, rfl⟩
  rw [← hgb, ← hw1] at H0
  rw [show Value.pointer (some (⟨w.heap.size, 0, none⟩ : Addr)) = Value.pointer (some ⟨gb, 0, none⟩) by rw [hgb], ← hw1]
  clear hgb hw1 c0
  refine (large_any A c G _ H0.out.C hX.out.1 hX.out.2).mono ?_
  rintro e' w2 ⟨bo, rfl, hbo, B2⟩
  have H2 := Aside0.mk (H0.out.step B2)
  have c0 := H2.out.cell
  clear B2 H0
  cases bo
  rotate_left
  · clear hbo
    go_wp2_with fail
    refine (awake_any _).mono ?_
    rintro e' w9 ⟨rfl, B9⟩
    have hF := Aside0.mk (H2.out.step B9).b
    clear B9 H2 c0
    go_wp2
    go_ret
    exact ⟨rfl, hF.out⟩
  have hSml := hbo rfl
  have hSm : Aside0 (Sm G ∧ Sml G) := ⟨hSml.sm hX.out.2, hSml⟩
  have hn50 := hSml.1
  clear hbo hSml
  go_wp2_with fail
  refine (index_any A c G _ H2.out.C hX.out.1 hSm.out.1).mono ?_
  rintro e' w3 ⟨A3, c3, La, ix, rfl, hxC, hxc, hI, hIX, _, Bx⟩
  have E3 := Aside0.mk (And.intro (H2.out.step Bx) (And.intro hxC (And.intro hI hIX)))
  have hxl := hIX.len
  have f3 := E3.out.1.cell
  clear Bx hxC hxc hI hIX H2 c0
  have hnn : ((G.length : Int) != (G.length : Int)) = false := by simp
  go_wp2_with fail
  refine (comps_any A c G _ E3.out.1.C hX.out.1 hSm.out.1).mono ?_
  rintro e' w4 ⟨A2, c2, L, rfl, hLL, hI, hLn, Bx⟩
  obtain rfl := hI.uniq E3.out.2.2.1
  have E4 := Aside0.mk (And.intro (E3.out.1.step Bx) (And.intro (Kd.C_below E3.out.2.1 Bx) (And.intro hI E3.out.2.2.2)))
  have f4 := E4.out.1.cell
  obtain ⟨m, hm⟩ : ∃ m, L.length = m := ⟨_, rfl⟩
  have hm50 : m ≤ 50 := by omega
  have hm' := Aside0.mk hm
  rw [hm]
  clear Bx hLL hI hLn E3 f3 hm
  go_upto_region 7 with (at_make; refine Kd.S_make kG (w0 := w4) 0 29 (by rfl) (N := 25) (by rfl) 22 (.tmp 24) (.tmp 24) (by rfl) (m : Int) (by rfl) (by rfl) Try.underlying22 (.slice none 0 0) 24 info29 rfl (by decide) (by decide) [] (ok := fun k => w4.heap.size ≤ k) (okp := fun _ => False) ⟨_, rfl, Kd.R_nil _ _ _ _ _⟩ (fun _ h => h.elim) (Nat.le_refl _) (by omega) (by omega) ((Kp.refl (fun _ => False) w4).belowB (fun _ h => h.elim) (Nat.zero_le _)) (Nat.zero_le _) ?_; intro v7 w7 hRA hBA hgA hatA; rw [Int.toNat_natCast] at hRA; have hb7 : Below w4.heap.size w4 w7 := ((Kp.refl (fun _ => False) w4).grown hgA (fun k hk => by cases hk)).none_below; obtain ⟨B, cb, ev, hx, Cx⟩ := Kd.S_reads hRA; rw [List.length_replicate] at ev; subst ev; clear hx Cx; have hI0 := Aside0.mk (And.intro hRA hb7); clear hRA hBA hgA hatA hb7 f4)
  obtain ⟨hb, hhb⟩ : ∃ hb, w7.heap.size = hb := ⟨_, rfl⟩
  have hC0 : Aside0 (CW w4 (w7.alloc (.cells #[.slice B m cb] 24)) hb m B cb (List.replicate m []) ∧ CT G m (List.replicate m []) 0 0) := by
    have b9 : Below w4.heap.size w4 (w7.alloc (.cells #[.slice B m cb] 24)) := below_alloc hI0.out.2 _
    have h9 : (w7.alloc (.cells #[.slice B m cb] 24)).heap[hb]? = some (.cells #[.slice B m cb] 24 (0, 0)) := by rw [← hhb]; exact heap_alloc_new w7 _
    exact ⟨⟨b9, h9, Kd.S_types (Kd.S_alloc hI0.out.1 _) h9 (fun q hq => ty_no hq), by rw [← hhb]; exact hI0.out.2.size⟩, CT.start G m⟩
  rw [hhb]
  clear hhb hI0
  obtain ⟨w8, hw8⟩ : ∃ w8, w7.alloc (.cells #[.slice B m cb] 24) = w8 := ⟨_, rfl⟩
  rw [hw8] at hC0 ⊢
  clear hw8
  have c0 := (E4.out.1.step hC0.out.1.b).cell
  go_wp2_with fail
  clear c0
  go_loopg [30] G.length (fun z v30 wi => ∃ (i : Nat) (o : List (List Int)), i + z = G.length ∧ v30 = .int .i64 (i : Int) ∧ Aside0 (CW w4 wi hb m B cb o ∧ CT G m o i 0))
  case atStart => exact ⟨0, _, by omega, rfl, hC0⟩
  case round =>
    clear hC0
    obtain ⟨i, o, hi, rfl, hJ⟩ := hrel
    by_cases hlt : i < G.length
    · have hlti : (i : Int) < (G.length : Int) := by omega
      obtain ⟨gk1, rfl⟩ : ∃ z, gk = z + 1 := ⟨gk - 1, by omega⟩
      have hw2 : wrap64 ((i : Int) + 1) = ((i + 1 : Nat) : Int) := by unfold wrap64; omega
      have hb9 := Aside0.mk (And.intro (show i + 1 + gk1 = G.length by omega) (And.intro (show gk1 < gk1 + 1 by omega) hw2))
      have hxn : isNode G (i : Int) := ⟨Int.natCast_nonneg _, hlti⟩
      obtain ⟨ad2, A6, c6, eA, r0, rl, rC⟩ := at_L1 E4.out.1.C (i : Int) (Int.natCast_nonneg _) hlti
      subst eA
      rw [Int.toNat_natCast] at r0
      obtain ⟨row, hrow⟩ : ∃ row, rd_L1 G (i : Int) = row := ⟨_, rfl⟩
      have hrow2 : Aside0 (∃ h : i < G.length, G[i] = row) := ⟨hlt, by rw [← hrow, rd1_get G i hlt]⟩
      rw [hrow] at r0 rl rC
      replace r0 := (Below.cell hJ.out.1.b (World.block_lt_of_cell? _ _ r0)).trans r0
      have hre := edges_tk G i hlt
      unfold adj at hre
      rw [hrow] at hre
      have he := hSm.out.2.2
      have hrl : row.length ≤ 1000 := by omega
      obtain ⟨kx, hkx, hxk⟩ := E4.out.2.2.1.part (isNode_clean.2 hxn)
      have hKx : Aside0 (∃ h : kx < L.length, (i : Int) ∈ L[kx]) := ⟨hkx, hxk⟩
      have hix : Aside0 (rd ix (i : Int) = (kx : Int)) := ⟨IX.rd_ E4.out.2.2.1 E4.out.2.2.2 hkx hxk⟩
      have hkm : kx < m := by have := hm'.out; omega
      have hR := Aside0.mk (And.intro rC (And.intro hxn (And.intro (show edges (G.take i) + row.length ≤ 1000 by omega) hrow)))
      have hJ0 : Aside0 (CW w4 wr hb m B cb o ∧ CT G m o i 0) := hJ
      clear rl rC hrow hw2 hi hlt hkx hxk hxn hre he hJ
      go_wp2_with fail
      clear r0
      obtain ⟨w9, rfl⟩ : ∃ w9 : World, w9 = wr := ⟨_, rfl⟩
      go_loopg [37] row.length (fun z v37 wi => ∃ (j : Nat) (o : List (List Int)), j + z = row.length ∧ v37 = .int .i64 (j : Int) ∧ Aside0 (CW w4 wi hb m B cb o ∧ CT G m o i j))
      case atStart => exact ⟨0, o, by omega, rfl, hJ0⟩
      case round =>
        clear hJ0
        obtain ⟨j, o2, hj, rfl, hJ⟩ := hrel
        by_cases hjt : j < row.length
        · have hjti : (j : Int) < (row.length : Int) := by omega
          obtain ⟨gj1, rfl⟩ : ∃ z, gk = z + 1 := ⟨gk - 1, by omega⟩
          have hw2 : wrap64 ((j : Int) + 1) = ((j + 1 : Nat) : Int) := by unfold wrap64; omega
          obtain ⟨bd, eB, b0⟩ := Kd.at_int (Kd.C_below hR.out.1 hJ.out.1.b) (j : Int) (Int.natCast_nonneg _) hjti
          subst eB
          rw [rd_get row j hjt, Int.toNat_natCast] at b0
          have hin := List.getElem_mem hjt
          obtain ⟨yy, hyy⟩ : ∃ yy, row[j] = yy := ⟨_, rfl⟩
          rw [hyy] at b0 hin
          have hjlt : j ≤ row.length := by omega
          have hk9 := Aside0.mk (And.intro (show j + 1 + gj1 = row.length by omega) (And.intro (show gj1 < gj1 + 1 by omega) (And.intro hin hjlt)))
          clear hj hyy hin hjt hjlt
          by_cases hn : isNode G yy
          · have hy0 := hn.1
            have hy1 := hn.2
            have ht0 : ¬ yy < 0 := by omega
            have ht1 : ¬ yy ≥ (G.length : Int) := by omega
            have hxi := hR.out.2.1.2
            obtain ⟨kt, hkt, htk⟩ := E4.out.2.2.1.part (isNode_clean.2 hn)
            have e1 := IX.rd_ E4.out.2.2.1 E4.out.2.2.2 hkt htk
            obtain ⟨hkx, hxk⟩ := hKx.out
            have hle : kt ≤ kx := E4.out.2.2.1.edge (clean_ok hSm.out.1.n) (isNode_clean.2 hR.out.2.1) ((mem_clean hR.out.2.1).2 ⟨by show yy ∈ rd_L1 G (i : Int); rw [hR.out.2.2.2]; exact hk9.out.2.2.1, hn⟩) hkt hkx hxk htk
            have hIx := Kd.C_below E4.out.2.1 hJ.out.1.b
            obtain ⟨dd, eD, d0⟩ := Kd.at_int hIx yy hy0 (by rw [hxl]; exact hy1)
            subst eD
            rw [e1] at d0
            obtain ⟨dd', eD, d1⟩ := Kd.at_int hIx (i : Int) (Int.natCast_nonneg _) (by rw [hxl]; exact hxi)
            injection eD with eD
            subst eD
            rw [hix.out, Int.toNat_natCast] at d1
            have hk0 : ¬ (kx : Int) < 0 := by omega
            have hk1 : ¬ (kt : Int) < 0 := by omega
            have hk2 : ¬ (kx : Int) ≥ (m : Int) := by omega
            have hk3 : ¬ (kt : Int) ≥ (m : Int) := by omega
            have c1 := hJ.out.1.cell
            clear hkt htk e1 hkx hxk hn hIx
            go_upto_region 14 with fail
            go_quiet (fail)
            obtain ⟨V, hV⟩ : ∃ V, wr.drewN nq = V := ⟨_, rfl⟩
            have hJV : Aside0 (CW w4 V hb m B cb o2 ∧ CT G m o2 i j) := ⟨by rw [← hV]; exact hJ.out.1.step (pw_below_drewN (Below.refl _ _) _), hJ.out.2⟩
            rw [hV]
            clear c1 d0 d1 b0 hV hJ
            have c1 := hJV.out.1.cell
            by_cases hab : kx = kt
            · have e1 : ((kx : Int) != (kt : Int)) = false := by simp [hab]
              have hE : Aside0 (CW w4 V hb m B cb o2 ∧ CT G m o2 i (j + 1)) := ⟨hJV.out.1, hJV.out.2.skip⟩
              clear hJV hab hle
              go_wp2_with fail
              go_roundg gj1
              case rel => exact ⟨j + 1, o2, hk9.out.1, by go_num, hE⟩
              case measure => exact hk9.out.2.1
            · have e1 : ((kx : Int) != (kt : Int)) = true := by simp; omega
              have hlt : kt < kx := by omega
              clear hab hle
              go_upto_region 18 with fail
              have kx0 : (0 : Int) ≤ (kx : Int) := Int.natCast_nonneg _
              have kx1 : (kx : Int) < (m : Int) := by omega
              obtain ⟨g, gcap, ev, _⟩ := Kd.S_form hJV.out.1.s (by rw [hJV.out.2.len]; omega)
              injection ev with ev1 ev2 ev3
              subst ev1
              clear ev2 ev3
              obtain ⟨A0, c0, oki, k1, k2, k3, k4, k5⟩ := kid_open (W := V.drew) (Kd.S_step hJV.out.1.s (fun _ _ _ => rfl)) (kx : Int) kx0 kx1
              rw [Int.toNat_natCast] at k1 k2 k5
              replace k1 : V.cell? ⟨g, kx, none⟩ = some (.slice A0 (rd_L1 o2 (kx : Int)).length c0) := k1
              replace k2 : V.frozen? ⟨g, kx, none⟩ = false := k2
              obtain ⟨rw9, hrow9⟩ : ∃ rw9, rd_L1 o2 (kx : Int) = rw9 := ⟨_, rfl⟩
              have hrl9 : rw9.length ≤ 1000 := by
                have h1 := hJV.out.2.row_len kx0 kx1
                have h2 := hR.out.2.2.1
                have h3 := hk9.out.2.2.2
                rw [hrow9] at h1; omega
              rw [hrow9] at k1 k3 k5
              have hal : ∀ a v, V.cell? a = some v → (V.alloc (.cells #[.int .i64 (kt : Int)] 3)).cell? a = some v := fun a v h => (Below.cell (below_alloc (Below.refl _ V) _) (World.block_lt_of_cell? _ _ h)).trans h
              have c1a := hal _ _ c1
              have k1a := hal _ _ k1
              have hgl := (Kd.S_R hJV.out.1.s).1 g rfl
              have hQ := Aside0.mk (And.intro k3 (And.intro k4 (And.intro k5 (And.intro hJV.out (And.intro hgl (And.intro hrow9 hlt))))))
              clear k3 k4 k5 hJV hgl hrow9 hal hlt
              refine Held.begin_ (S := fun w' => w'.cell? ⟨hb, 0, none⟩ = some (.slice (some ⟨g, 0, none⟩) m cb) ∧ w'.cell? ⟨g, kx, none⟩ = some (.slice A0 rw9.length c0)) 12 (by kernel_rfl) (by kernel_rfl) ?_ (fun hHeld => ?_)
              · exact ⟨c1, k1⟩
              simp only [List.length_cons, List.length_nil, Nat.reduceAdd, List.replicate, Array.replicate]
              refine Held.take_ (v := ?vv1284800) 0 rfl rfl (by kernel_rfl) (by kernel_rfl) (fun _ _ _ h => h) (by assumption) (Or.inl ⟨by rfl, ?hy1284800⟩) ?_
              case hy1284800 => intro w hSw; (try dsimp only at hSw); (go_simp <;> with_reducible rfl)
              try simp only [Act.put, List.setIfInBounds_toArray, List.set_cons_zero, List.set_cons_succ]
              refine Held.take_ (v := ?vv1284801) 1 rfl rfl (by kernel_rfl) (by kernel_rfl) (fun _ _ _ h => h) (by assumption) (Or.inl ⟨by rfl, ?hy1284801⟩) ?_
              case hy1284801 => intro w hSw; (try dsimp only at hSw); (go_simp <;> with_reducible rfl)
              try simp only [Act.put, List.setIfInBounds_toArray, List.set_cons_zero, List.set_cons_succ]
              refine Held.take_ (v := ?vv1284802) 2 rfl rfl (by kernel_rfl) (by kernel_rfl) (fun _ _ _ h => h) (by assumption) (Or.inl ⟨by rfl, ?hy1284802⟩) ?_
              case hy1284802 => intro w hSw; (try dsimp only at hSw); (go_simp <;> with_reducible rfl)
              try simp only [Act.put, List.setIfInBounds_toArray, List.set_cons_zero, List.set_cons_succ]
              refine Held.take_ (v := ?vv1284803) 3 rfl rfl (by kernel_rfl) (by kernel_rfl) (fun _ _ _ h => h) (by assumption) (Or.inl ⟨by rfl, ?hy1284803⟩) ?_
              case hy1284803 => intro w hSw; (try dsimp only at hSw); (go_simp <;> with_reducible rfl)
              try simp only [Act.put, List.setIfInBounds_toArray, List.set_cons_zero, List.set_cons_succ]
              refine Held.take_ (v := ?vv1284804) 4 rfl rfl (by kernel_rfl) (by kernel_rfl) (fun _ _ _ h => h) (by assumption) (Or.inl ⟨by rfl, ?hy1284804⟩) ?_
              case hy1284804 => intro w hSw; (try dsimp only at hSw); (go_simp <;> with_reducible rfl)
              try simp only [Act.put, List.setIfInBounds_toArray, List.set_cons_zero, List.set_cons_succ]
              refine Held.take_ (v := ?vv1284805) 5 rfl rfl (by kernel_rfl) (by kernel_rfl) (fun _ _ _ h => h) (by assumption) (Or.inl ⟨by rfl, ?hy1284805⟩) ?_
              case hy1284805 => intro w hSw; (try dsimp only at hSw); (go_simp <;> with_reducible rfl)
              try simp only [Act.put, List.setIfInBounds_toArray, List.set_cons_zero, List.set_cons_succ]
              refine Held.take_ (v := ?vv1284806) 6 rfl rfl (by kernel_rfl) (by kernel_rfl) (fun _ _ _ h => h) (by assumption) (Or.inl ⟨by rfl, ?hy1284806⟩) ?_
              case hy1284806 => intro w hSw; (try dsimp only at hSw); (go_simp <;> with_reducible rfl)
              try simp only [Act.put, List.setIfInBounds_toArray, List.set_cons_zero, List.set_cons_succ]
              refine Held.take_ (v := ?vv1284807) 7 rfl rfl (by kernel_rfl) (by kernel_rfl) (fun _ _ _ h => h) (by assumption) (Or.inl ⟨by rfl, ?hy1284807⟩) ?_
              case hy1284807 => intro w hSw; (try dsimp only at hSw); (go_simp <;> with_reducible rfl)
              try simp only [Act.put, List.setIfInBounds_toArray, List.set_cons_zero, List.set_cons_succ]
              refine Held.take_ (v := ?vv1284808) 8 rfl rfl (by kernel_rfl) (by kernel_rfl) (fun _ _ _ h => h) (by assumption) (Or.inl ⟨by rfl, ?hy1284808⟩) ?_
              case hy1284808 => intro w hSw; (try dsimp only at hSw); (go_simp <;> with_reducible rfl)
              try simp only [Act.put, List.setIfInBounds_toArray, List.set_cons_zero, List.set_cons_succ]
              refine Held.step_ 9 rfl rfl (by kernel_rfl) (fun K hK => ?_)
              go_simp
              refine hK.out _ _ ⟨c1a, k1a⟩ (fun hHeld2 => ?_)
              clear hK K
              try simp only [Act.put, List.setIfInBounds_toArray, List.set_cons_zero, List.set_cons_succ]
              refine Held.step_ 10 rfl rfl (by kernel_rfl) (fun K hK => ?_)
              rw [show (V.alloc (.cells #[.int .i64 (kt : Int)] 3)).drew = V.drew.alloc (.cells #[.int .i64 (kt : Int)] 3) from rfl]
              refine Kd.R_append_step (Kd.int .i64) (w0 := V) 0 (by rfl) (.tmp 87) (.tmp 89) 29 3 (.int .i64 0) 8 (by rfl) Try.underlying29 info3 rfl (by decide) (by decide) (.slice A0 rw9.length c0) rw9 (kt : Int) [.int .i64 (kt : Int)] (fun k => oki k ∨ (w4.heap.size ≤ k ∧ k ≠ hb) ∧ V.heap.size ≤ k) (fun _ => False) (by rfl) (by rfl) (by rfl) ?_ ?_ ?_ ?_ (Nat.zero_le _) ?_ ?_
              · intro k hk; exact hk.elim
              · intro k hk
                have h9 := hQ.out.2.2.2.1.1
                replace hk : V.heap.size ≤ k := hk
                exact .inr ⟨⟨Nat.le_trans h9.b.size hk, fun e => by have := blk_lt' h9.h; omega⟩, hk⟩
              · exact Kd.R_mono hQ.out.1 (fun k hk => .inl hk)
              · exact ((Kp.refl (fun _ => False) V).drewN 1).belowB (fun _ h => h.elim) (Nat.zero_le _)
              · omega
              intro v1 wa hRA hBA hgA hatA
              obtain ⟨A9, c9, ev, _, _⟩ := Kd.R_reads hRA
              rw [List.length_append, List.length_singleton] at ev
              subst ev
              obtain ⟨x1, x2, x3⟩ := hQ.out.2.2.1 wa _ _ hgA hRA
              have hkp : Kp (fun k => w4.heap.size ≤ k ∧ k ≠ hb) V wa := ((Kp.refl (fun k => w4.heap.size ≤ k ∧ k ≠ hb) V).drewN 1).grown hgA (fun k hk => .inl (hQ.out.2.1 k (hQ.out.1.1 k hk)).1)
              have hz1 : wa.heap[hb]? = some (.cells #[.slice (some ⟨g, 0, none⟩) m cb] 24 (0, 0)) := hkp.blk hQ.out.2.2.2.1.1.h (fun h => h.2 rfl)
              have c1b : wa.cell? ⟨hb, 0, none⟩ = some (.slice (some ⟨g, 0, none⟩) m cb) := cell_at hz1 rfl
              have hA3 := Aside0.mk (And.intro x3 hkp)
              clear hRA hBA hgA hatA x3 hkp hz1
              refine hK.out _ _ ⟨c1b, x1⟩ (fun hHeld3 => ?_)
              clear hK K
              try simp only [Act.put, List.setIfInBounds_toArray, List.set_cons_zero, List.set_cons_succ]
              refine Held.take_ (v := ?vv1525411) 11 rfl rfl (by kernel_rfl) (by kernel_rfl) (fun _ _ _ h => h) (by assumption) (Or.inl ⟨by rfl, ?hy1525411⟩) ?_
              case hy1525411 => intro w hSw; (try dsimp only at hSw); (go_simp <;> with_reducible rfl)
              try simp only [Act.put, List.setIfInBounds_toArray, List.set_cons_zero, List.set_cons_succ]
              refine Held.rest_ (by kernel_rfl) ?_
              simp only [List.drop_succ_cons, List.drop_zero]
              clear hHeld hHeld2 hHeld3
              have hgo : Aside0 (CW w4 (wa.setCell ⟨g, kx, none⟩ (.slice A9 (rw9.length + 1) c9)) hb m (some ⟨g, 0, none⟩) cb (o2.set kx (rw9 ++ [(kt : Int)])) ∧ CT G m (o2.set kx (rw9 ++ [(kt : Int)])) i (j + 1)) := by
                have hV := hQ.out.2.2.2.1
                have hg := hQ.out.2.2.2.2.1
                have hkp2 := hA3.out.2.setCell (p := ⟨g, kx, none⟩) (.inl hg) (.slice A9 (rw9.length + 1) c9)
                refine ⟨⟨hV.1.b.trans (hkp2.belowB (fun k hk => hk.1) hV.1.b.size), hkp2.blk hV.1.h (fun h => h.2 rfl), hA3.out.1, hV.1.lo⟩, ?_⟩
                have h9 := hV.2.add kx0 kx1 (Int.natCast_nonneg kt) (by have := hQ.out.2.2.2.2.2.2; omega)
                rw [hQ.out.2.2.2.2.2.1, Int.toNat_natCast] at h9
                exact h9
              clear hA3 hQ c1 c1a c1b k1 k2 k1a
              go_wp2_with fail
              clear x1 x2
              go_roundg gj1
              case rel => exact ⟨j + 1, _, hk9.out.1, by go_num, hgo⟩
              case measure => exact hk9.out.2.1
          · have hE : Aside0 (CW w4 wr hb m B cb o2 ∧ CT G m o2 i (j + 1)) := ⟨hJ.out.1, hJ.out.2.skip⟩
            by_cases ht0 : yy < 0
            · clear hn hJ
              go_wp2_with fail
              go_roundg gj1
              case rel => exact ⟨j + 1, o2, hk9.out.1, by go_num, hE⟩
              case measure => exact hk9.out.2.1
            · have ht1 : yy ≥ (G.length : Int) := by
                by_cases h : yy ≥ (G.length : Int)
                · exact h
                · exact absurd ⟨by omega, by omega⟩ hn
              clear hn hJ
              go_wp2_with fail
              go_roundg gj1
              case rel => exact ⟨j + 1, o2, hk9.out.1, by go_num, hE⟩
              case measure => exact hk9.out.2.1
        · have hjr : j = row.length := by omega
          have hni : ¬ (j : Int) < (row.length : Int) := by omega
          have hm9 := hb9.out.2.1
          have hw2 := hb9.out.2.2
          have hJ2 : Aside0 (CW w4 wr hb m B cb o2 ∧ CT G m o2 (i + 1) 0) := by
            obtain ⟨hil, hrow⟩ := hrow2.out
            exact ⟨hJ.out.1, hJ.out.2.row hil (by rw [hrow]; omega)⟩
          clear hjr hj hJ
          go_wp2_with fail
          go_roundg gk1
          case rel => exact ⟨i + 1, o2, hb9.out.1, by go_num, hJ2⟩
          case measure => exact hm9
    · have hin : i = G.length := by omega
      have hni : ¬ (i : Int) < (G.length : Int) := by omega
      have hT : Aside0 (Sm o ∧ CT G m o i 0) := ⟨hJ.out.2.sm hm50 (by have := hSm.out.2.2; rw [hin, List.take_length]; omega), hJ.out.2⟩
      have hJ2 : Aside0 (CW w4 wr hb m B cb o) := ⟨hJ.out.1⟩
      have hB0 : Aside0 (∀ W1, Below wr.heap.size wr W1 → Below w.heap.size w W1) := ⟨fun W1 hb => (E4.out.1.step (hJ2.out.b.trans (hb.mono hJ2.out.b.size))).b⟩
      have hol : o.length = m := hT.out.2.len
      have hcb : Aside0 (o.length ≤ cb) := ⟨by rw [hol]; exact (Kd.S_reads' hJ2.out.s).2.1⟩
      have hCo : Aside0 (∀ W1, CW w4 W1 hb m B cb o → Kd.C kG W1 B m o) := ⟨fun W1 h => by have := (Kd.S_reads' h.s).2.2; rwa [hol] at this⟩
      clear hJ hlt hi hin
      subst hol
      go_wp2_with fail
      refine Held.begin_ (S := fun W1 => W1.cell? ⟨hb, 0, none⟩ = some (.slice B o.length cb)) 16 (by kernel_rfl) (by kernel_rfl) ?_ (fun hHeld => ?_)
      · exact hJ2.out.cell
      simp only [List.length_cons, List.length_nil, Nat.reduceAdd, List.replicate, Array.replicate]
      refine Held.step_ 0 rfl rfl (by kernel_rfl) (fun K hK => ?_)
      go_simp
      go_at_call 8
      refine (awake_any _).mono ?_
      rintro e' wa ⟨rfl, Bx⟩
      have Ja := Aside0.mk (hJ2.out.step ((below_drew (Below.refl _ _)).trans Bx))
      have fa := Ja.out.cell
      have Ba := Aside0.mk (hB0.out _ ((below_drew (Below.refl _ _)).trans Bx))
      clear Bx hJ2 hB0
      go_wp2_with fail
      refine hK.out _ _ fa (fun hHeld2 => ?_)
      clear hK K
      try simp only [Act.put, List.setIfInBounds_toArray, List.set_cons_zero, List.set_cons_succ]
      refine Held.take_ (v := ?vv1940101) 1 rfl rfl (by kernel_rfl) (by kernel_rfl) (fun _ _ _ h => h) (by assumption) (Or.inl ⟨by rfl, ?hy1940101⟩) ?_
      case hy1940101 => intro w hSw; (try dsimp only at hSw); (go_simp <;> with_reducible rfl)
      try simp only [Act.put, List.setIfInBounds_toArray, List.set_cons_zero, List.set_cons_succ]
      refine Held.take_ (v := ?vv1940102) 2 rfl rfl (by kernel_rfl) (by kernel_rfl) (fun _ _ _ h => h) (by assumption) (Or.inl ⟨by rfl, ?hy1940102⟩) ?_
      case hy1940102 => intro w hSw; (try dsimp only at hSw); (go_simp <;> with_reducible rfl)
      try simp only [Act.put, List.setIfInBounds_toArray, List.set_cons_zero, List.set_cons_succ]
      refine Held.take_ (v := ?vv1940105) 5 rfl rfl (by kernel_rfl) (by kernel_rfl) (fun _ _ _ h => h) (by assumption) (Or.inl ⟨by rfl, ?hy1940105⟩) ?_
      case hy1940105 => intro w hSw; (try dsimp only at hSw); (go_simp <;> with_reducible rfl)
      try simp only [Act.put, List.setIfInBounds_toArray, List.set_cons_zero, List.set_cons_succ]
      refine Held.take_ (v := ?vv1940106) 6 rfl rfl (by kernel_rfl) (by kernel_rfl) (fun _ _ _ h => h) (by assumption) (Or.inl ⟨by rfl, ?hy1940106⟩) ?_
      case hy1940106 => intro w hSw; (try dsimp only at hSw); (go_simp <;> with_reducible rfl)
      try simp only [Act.put, List.setIfInBounds_toArray, List.set_cons_zero, List.set_cons_succ]
      refine Held.take_ (v := ?vv1940107) 7 rfl rfl (by kernel_rfl) (by kernel_rfl) (fun _ _ _ h => h) (by assumption) (Or.inl ⟨by rfl, ?hy1940107⟩) ?_
      case hy1940107 => intro w hSw; (try dsimp only at hSw); (go_simp <;> with_reducible rfl)
      try simp only [Act.put, List.setIfInBounds_toArray, List.set_cons_zero, List.set_cons_succ]
      refine Held.step_ 3 rfl rfl (by kernel_rfl) (fun K hK => ?_)
      go_simp
      go_at_call 9
      refine (comps_any B cb o _ (hCo.out _ Ja.out) hcb.out hT.out.1).mono ?_
      rintro e' wb ⟨A9, c9, L9, rfl, hLL, hI, _, Bx⟩
      rw [hT.out.2.clean] at hI
      rw [hT.out.2.comps hI]
      have Jb := Aside0.mk (Ja.out.step Bx)
      have fb := Jb.out.cell
      have Bb := Aside0.mk (bl1' Ba.out Bx)
      have hI9 := Aside0.mk hI
      clear Bx hLL hI Ja Ba
      go_wp2_with fail
      refine hK.out _ _ fb (fun hHeld3 => ?_)
      clear hK K
      try simp only [Act.put, List.setIfInBounds_toArray, List.set_cons_zero, List.set_cons_succ]
      refine Held.take_ (v := ?vv2010304) 4 rfl rfl (by kernel_rfl) (by kernel_rfl) (fun _ _ _ h => h) (by assumption) (Or.inl ⟨by rfl, ?hy2010304⟩) ?_
      case hy2010304 => intro w hSw; (try dsimp only at hSw); (go_simp <;> with_reducible rfl)
      try simp only [Act.put, List.setIfInBounds_toArray, List.set_cons_zero, List.set_cons_succ]
      refine Held.take_ (v := ?vv2010308) 8 rfl rfl (by kernel_rfl) (by kernel_rfl) (fun _ _ _ h => h) (by assumption) (Or.inl ⟨by rfl, ?hy2010308⟩) ?_
      case hy2010308 => intro w hSw; (try dsimp only at hSw); (go_simp <;> with_reducible rfl)
      try simp only [Act.put, List.setIfInBounds_toArray, List.set_cons_zero, List.set_cons_succ]
      refine Held.take_ (v := ?vv2010309) 9 rfl rfl (by kernel_rfl) (by kernel_rfl) (fun _ _ _ h => h) (by assumption) (Or.inl ⟨by rfl, ?hy2010309⟩) ?_
      case hy2010309 => intro w hSw; (try dsimp only at hSw); (go_simp <;> with_reducible rfl)
      try simp only [Act.put, List.setIfInBounds_toArray, List.set_cons_zero, List.set_cons_succ]
      refine Held.take_ (v := ?vv2010310) 10 rfl rfl (by kernel_rfl) (by kernel_rfl) (fun _ _ _ h => h) (by assumption) (Or.inl ⟨by rfl, ?hy2010310⟩) ?_
      case hy2010310 => intro w hSw; (try dsimp only at hSw); (go_simp <;> with_reducible rfl)
      try simp only [Act.put, List.setIfInBounds_toArray, List.set_cons_zero, List.set_cons_succ]
      refine Held.take_ (v := ?vv2010311) 11 rfl rfl (by kernel_rfl) (by kernel_rfl) (fun _ _ _ h => h) (by assumption) (Or.inl ⟨by rfl, ?hy2010311⟩) ?_
      case hy2010311 => intro w hSw; (try dsimp only at hSw); (go_simp <;> with_reducible rfl)
      try simp only [Act.put, List.setIfInBounds_toArray, List.set_cons_zero, List.set_cons_succ]
      refine Held.step_ 12 rfl rfl (by kernel_rfl) (fun K hK => ?_)
      go_simp
      go_at_call 15
      refine (onc_any B cb o _ (hCo.out _ Jb.out) hcb.out hT.out.1).mono ?_
      rintro e' wc ⟨A8, c8, L8, on, rfl, hoC, hoc, hI, hIX, _, Bx⟩
      rw [hT.out.2.clean] at hI
      have Jc := Aside0.mk (Jb.out.step Bx)
      have fc := Jc.out.cell
      have Bc := Aside0.mk (bl1' Bb.out Bx)
      have hOn := Aside0.mk (And.intro hoC (And.intro hoc (And.intro (hT.out.2.none_ hI hIX) (show on.length < 1000000000 by have := hIX.len; omega))))
      clear Bx hoC hoc hI hIX Jb Bb
      go_wp2_with fail
      refine hK.out _ _ fc (fun hHeld4 => ?_)
      clear hK K
      try simp only [Act.put, List.setIfInBounds_toArray, List.set_cons_zero, List.set_cons_succ]
      refine Held.step_ 13 rfl rfl (by kernel_rfl) (fun K hK => ?_)
      go_simp
      go_at_call 17
      refine (containsB_any A8 c8 on true _ hOn.out.1 hOn.out.2.1 hOn.out.2.2.2).mono ?_
      rintro e' wd ⟨rfl, nn, rfl⟩
      rw [hOn.out.2.2.1]
      have fd : (wc.drewN nn).cell? ⟨hb, 0, none⟩ = some (.slice B o.length cb) := fc
      go_wp2_with fail
      refine hK.out _ _ fd (fun hHeld5 => ?_)
      clear hK K
      try simp only [Act.put, List.setIfInBounds_toArray, List.set_cons_zero, List.set_cons_succ]
      refine Held.take_ (v := ?vv2146814) 14 rfl rfl (by kernel_rfl) (by kernel_rfl) (fun _ _ _ h => h) (by assumption) (Or.inl ⟨by rfl, ?hy2146814⟩) ?_
      case hy2146814 => intro w hSw; (try dsimp only at hSw); (go_simp <;> with_reducible rfl)
      try simp only [Act.put, List.setIfInBounds_toArray, List.set_cons_zero, List.set_cons_succ]
      refine Held.take_ (v := ?vv2146815) 15 rfl rfl (by kernel_rfl) (by kernel_rfl) (fun _ _ _ h => h) (by assumption) (Or.inl ⟨by rfl, ?hy2146815⟩) ?_
      case hy2146815 => intro w hSw; (try dsimp only at hSw); (go_simp <;> with_reducible rfl)
      try simp only [Act.put, List.setIfInBounds_toArray, List.set_cons_zero, List.set_cons_succ]
      refine Held.rest_ (by kernel_rfl) ?_
      simp only [List.drop_succ_cons, List.drop_zero]
      clear hHeld hHeld2 hHeld3 hHeld4 hHeld5 fa fb fc fd
      have hF : Aside0 (Below w.heap.size w (wc.drewN nn)) := ⟨pw_below_drewN Bc.out _⟩
      clear Bc Jc hOn
      go_wp2
      go_ret
      exact ⟨rfl, hF.out⟩
end Go.Proofs.Ytmlikgmcekofbaa
end

