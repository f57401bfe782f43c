import Derived.Test.YtmlikgmcekofbaaRows
import Derived.WalkKit
import Derived.ProofKit
import Derived.OpenShut
import Derived.SizedLaws
import Derived.Deep.Slices
import Derived.Test.YtmlikgmcekofbaaMCom11
section
/- scc: OnCycle. -/
set_option linter.unusedVariables false
set_option linter.unusedSimpArgs false
set_option linter.unusedSectionVars false
namespace Go.Proofs.Ytmlikgmcekofbaa
open Go.RowKit Go.Proofs.YtmlikgmcekofbaaW.PrintWords Go.Proofs.Ytmlikgmcekofbaa.PDigraphTells Mem

/-- Whether z, of part k, is on a cycle. -/
def onF (G L : List (List Int)) (k : Nat) (z : Int) : Bool := decide (1 < (L.getD k []).length) || decide (z ∈ adj G z)
/-- What OnCycle hands back. -/
def ONC (G : List (List Int)) (w : World) (e : Ending) (w' : World) : Prop := ∃ A c L l, e = .returned (.slice A l.length c) ∧ Kd.C Kd.bool w' A l.length l ∧ l.length ≤ c ∧ IsC (cleanG G) L ∧ IX L G.length false (onF G L) L.length 0 l ∧ L.length ≤ G.length ∧ Below w.heap.size w w'
theorem own_rawB {w : World} {b n : Nat} {l : List Bool} {ok : Nat → Prop} (h : w.heap[b]? = some (.cells (aB l) 4 (0, 0))) (hn : l.length = n) (hm : n ≤ 1000000) (hok : ok b) : Kd.R Kd.bool 4 w 0 ok (.slice (some ⟨b, 0, none⟩) n n) l := by
  subst hn
  refine Kd.R_of_own (enc := Value.bool) (h1 := fun _ => rfl) ⟨by simp [encs], .inr ⟨b, l.length, aB l, rfl, Nat.zero_le _, h, Nat.le_refl _, by unfold maxLen; omega, by simp [aB], ?_⟩⟩ (fun k hk => by simp only [Value.ownBlock, Option.some.injEq] at hk; rw [← hk]; exact hok)
  simp only [aB, encs]
  exact List.take_of_length_le (by simp)
theorem readsB_raw {w : World} {b n : Nat} {l : List Bool} (h : w.heap[b]? = some (.cells (aB l) 4 (0, 0))) (hn : l.length = n) (hm : n ≤ 1000000) : Kd.C Kd.bool w (some ⟨b, 0, none⟩) n l := by
  have := (Kd.R_reads' (own_rawB (ok := fun _ => True) h hn hm trivial)).2.2
  rw [hn] at this
  exact this
set_option maxRecDepth 100000 in
set_option maxHeartbeats 8000000 in
theorem onc_any (A : Option Addr) (c : Nat) (G : List (List Int)) (w : World) (hC : Kd.C kG w A G.length G) (hc : G.length ≤ c) (hG : Sm G) :
    Calls Try.prog 15 #[.agg #[.slice A G.length c]] w (ONC G w) := by
  have hX := Aside0.mk (And.intro hC (And.intro hc hG))
  have B0 : Below w.heap.size w (w.alloc (.cells #[.slice A G.length c] 24)) := below_alloc (Below.refl _ w) _
  have z0 : (w.alloc (.cells #[.slice A G.length c] 24)).heap[w.heap.size]? = some (.cells #[.slice A G.length c] 24 (0, 0)) := heap_alloc_new w _
  have hm := fun w => make_runB G.length (by have := hG.n; omega) w
  have hnn := hG.n
  have hX0 := Aside0.mk (And.intro B0 (And.intro z0 hm))
  clear hC hc hG B0 z0 hm
  go_enter Try.func15, Try.ntmps15
  go_wp2_with fail
  refine (comps_any A c G _ (Kd.C_below hX.out.1 hX0.out.1) hX.out.2.1 hX.out.2.2).mono ?_
  rintro e w2 ⟨A2, c2, L, rfl, hLL, hIs, hLn, B2⟩
  have c0 : w2.cell? ⟨w.heap.size, 0, none⟩ = some (.slice A G.length c) := cell_at ((B2.block _ (blk_lt' hX0.out.2.1)).trans hX0.out.2.1) rfl
  have hB2 := hX0.out.1.trans (B2.mono hX0.out.1.size)
  by_cases hL0 : L.length = 0
  · obtain ⟨rfl, rfl⟩ := hLL.nil hL0
    obtain rfl : L = [] := List.length_eq_zero_iff.1 hL0
    have hG0 := hIs.none_
    rw [cleanG_len] at hG0
    have hF : ONC G w (.returned (.slice none 0 0)) w2 := ⟨none, 0, [], [], rfl, (Kd.R_reads' (Kd.R_nil Kd.bool 4 w2 0 (fun _ => True))).2.2, Nat.le_refl _, hIs, ⟨by simp [hG0], fun k hk => by simp at hk⟩, by simp, hB2⟩
    have hF' := Aside0.mk hF
    have hq := fun w => eql_nil none 0 0 w
    simp only [Option.isNone_none] at hq
    clear hF hLL hIs hX hX0 hB2 c0
    go_wp2
    go_ret
    exact hF'.out
  · obtain ⟨ad, rfl⟩ := hLL.pos (by omega)
    have hmm := hX0.out.2.2
    have hK := Aside0.mk (And.intro hLL.C (And.intro hIs (And.intro hB2 (And.intro hLn ((B2.block _ (blk_lt' hX0.out.2.1)).trans hX0.out.2.1)))))
    have hLm : L.length ≤ 65536 := by omega
    obtain ⟨bo, hbo⟩ : ∃ bo, w2.heap.size = bo := ⟨_, rfl⟩
    have hI0 : Aside0 ((w2.alloc (.cells (aB (List.replicate G.length false)) 4)).heap[bo]? = some (.cells (aB (List.replicate G.length false)) 4 (0, 0)) ∧ Below bo w2 (w2.alloc (.cells (aB (List.replicate G.length false)) 4)) ∧ IX L G.length false (onF G L) 0 0 (List.replicate G.length false)) := by
      rw [← hbo]
      exact ⟨heap_alloc_new w2 _, below_alloc (Below.refl _ w2) _, IX.start _ _ _ _ _⟩
    have hbo' := Aside0.mk hbo
    have hq := fun w => eql_nil (some ad) L.length c2 w
    simp only [Option.isNone_some] at hq
    clear hLL hIs hB2 hX0 hLn hL0 hbo
    go_wp2_with fail
    rw [hbo'.out]
    clear hmm hq c0
    obtain ⟨w3, hw3⟩ : ∃ w3, w2.alloc (.cells (aB (List.replicate G.length false)) 4) = w3 := ⟨_, rfl⟩
    rw [hw3] at hI0 ⊢
    clear hw3
    go_loopg [19] L.length (fun z v wi => ∃ (i : Nat) (l : List Bool), i + z = L.length ∧ v = .int .i64 (i : Int) ∧ Aside0 (wi.heap[bo]? = some (.cells (aB l) 4 (0, 0)) ∧ Below bo w2 wi ∧ IX L G.length false (onF G L) i 0 l))
    case atStart => exact ⟨0, _, by omega, rfl, hI0⟩
    case round =>
      obtain ⟨i, l, hi, rfl, hJ⟩ := hrel
      clear hI0
      by_cases hlt : i < L.length
      · have hlti : (i : Int) < (L.length : Int) := by omega
        obtain ⟨gk1, rfl⟩ : ∃ z, gk = z + 1 := ⟨gk - 1, by omega⟩
        have hw2 : wrap64 ((i : Int) + 1) = ((i + 1 : Nat) : Int) := by unfold wrap64; omega
        have hb9 := Aside0.mk (And.intro (show i + 1 + gk1 = L.length by omega) (And.intro (show gk1 < gk1 + 1 by omega) hw2))
        obtain ⟨ad2, A3, c3, eA, r0, rl, rC⟩ := at_L1 hK.out.1 (i : Int) (Int.natCast_nonneg _) hlti
        injection eA with eA
        subst eA
        rw [rd1_get L i hlt, Int.toNat_natCast] at r0
        rw [rd1_get L i hlt] at rl rC
        have hbl : Below w2.heap.size w2 wr := by have h9 := hJ.out.2.1; rw [← hbo'.out] at h9; exact h9
        replace r0 := (Below.cell hbl (World.block_lt_of_cell? _ _ r0)).trans r0
        have hrn := hK.out.2.1.row_len hlt
        rw [cleanG_len] at hrn
        obtain ⟨row, hrow⟩ : ∃ row, L[i] = row := ⟨_, rfl⟩
        rw [hrow] at r0 rl rC hrn
        have hrow' : Aside0 (∃ h : i < L.length, L[i] = row) := ⟨hlt, hrow⟩
        have hR := Aside0.mk rC
        have hrn2 : row.length ≤ 65536 := by omega
        have hJ0 : Aside0 (wr.heap[bo]? = some (.cells (aB l) 4 (0, 0)) ∧ Below bo w2 wr ∧ IX L G.length false (onF G L) i 0 l) := hJ
        clear rl rC hrow hJ hw2 hi hbl hlt
        obtain ⟨w4, rfl⟩ : ∃ w4 : World, w4 = wr := ⟨_, rfl⟩
        go_wp2_with fail
        clear r0
        go_loopg [25] row.length (fun z v wi => ∃ (j : Nat) (l : List Bool), j + z = row.length ∧ v = .int .i64 (j : Int) ∧ Aside0 (wi.heap[bo]? = some (.cells (aB l) 4 (0, 0)) ∧ Below bo w2 wi ∧ IX L G.length false (onF G L) i j l))
        case atStart => exact ⟨0, _, by omega, rfl, hJ0⟩
        case round =>
          obtain ⟨j, l2, hj, rfl, hK2⟩ := hrel
          clear hJ0
          by_cases hjt : j < row.length
          · have hjti : (j : Int) < (row.length : Int) := by omega
            obtain ⟨gj1, rfl⟩ : ∃ z, gk = z + 1 := ⟨gk - 1, by omega⟩
            have hw2 : wrap64 ((j : Int) + 1) = ((j + 1 : Nat) : Int) := by unfold wrap64; omega
            have hbl : Below w2.heap.size w2 wr := by have h9 := hK2.out.2.1; rw [← hbo'.out] at h9; exact h9
            obtain ⟨bd, eB, b0⟩ := Kd.at_int (Kd.C_below hR.out hbl) (j : Int) (Int.natCast_nonneg _) hjti
            subst eB
            rw [rd_get row j hjt, Int.toNat_natCast] at b0
            obtain ⟨x, hx⟩ : ∃ x, row[j] = x := ⟨_, rfl⟩
            rw [hx] at b0
            obtain ⟨hil, hrow⟩ := hrow'.out
            have hxn : isNode (cleanG G) x := hK.out.2.1.node hil (by rw [hrow, ← hx]; exact List.getElem_mem hjt)
            have hx0 := hxn.1
            have hx1 := hxn.2
            rw [cleanG_len] at hx1
            have hll := hK2.out.2.2.len
            have y0 := cell_at (j := x.toNat) hK2.out.1 (aB_at hx0 (by rw [hll]; exact hx1))
            have y1 := free_at hK2.out.1 x.toNat
            obtain ⟨bv, hbv⟩ : ∃ bv, onF G L i x = bv := ⟨_, rfl⟩
            have hput : IX L G.length false (onF G L) i (j + 1) (l2.set x.toNat bv) := by
              subst hrow
              have h9 := hK2.out.2.2
              rw [← cleanG_len G] at h9 ⊢
              have := IX.put hK.out.2.1 h9 hil hjt
              rw [hx, hbv] at this
              exact this
            have hbv2 : bv = (decide (1 < row.length) || decide (x ∈ adj G x)) := by
              rw [← hbv]
              unfold onF
              have : L.getD i [] = row := by rw [← hrow]; simp [hil]
              rw [this]
            have hBw : Below w.heap.size w wr := hK.out.2.2.1.trans (hbl.mono hK.out.2.2.1.size)
            obtain ⟨adG, AX, cX, eX, s0, sl, sC⟩ := at_L1 hX.out.1 x hx0 hx1
            subst eX
            replace s0 := (Below.cell hBw (World.block_lt_of_cell? _ _ s0)).trans s0
            have g0 := cell_at (j := 0) ((hbl.block _ (blk_lt' hK.out.2.2.2.2)).trans hK.out.2.2.2.2) rfl
            obtain ⟨rx, hrx⟩ : ∃ rx, rd_L1 G x = rx := ⟨_, rfl⟩
            have hrx2 : adj G x = rx := hrx
            rw [hrx] at s0 sl sC
            rw [hrx2] at hbv2
            have hrxl : rx.length < 1000000000 := by
              have h1 := row_le_edges G rx (by rw [← hrx]; exact adj_mem ⟨hx0, hx1⟩)
              have := hX.out.2.2.e
              omega
            have hSX := Aside0.mk (And.intro (Kd.C_below sC hBw) (And.intro sl hrxl))
            have hE : Aside0 ((wr.setCell ⟨bo, x.toNat, none⟩ (.bool bv)).heap[bo]? = some (.cells (aB (l2.set x.toNat bv)) 4 (0, 0)) ∧ Below bo w2 (wr.setCell ⟨bo, x.toNat, none⟩ (.bool bv)) ∧ IX L G.length false (onF G L) i (j + 1) (l2.set x.toNat bv)) :=
              ⟨by rw [set_at hK2.out.1, aB_set], hK2.out.2.1.trans (((Kp.refl (fun k => k = bo) wr).setCell (p := ⟨bo, x.toNat, none⟩) (.inl rfl) _).belowB (fun k hk => Nat.le_of_eq hk.symm) (Nat.le_of_lt (blk_lt' hK2.out.1))), hput⟩
            have hk9 := Aside0.mk (And.intro (show j + 1 + gj1 = row.length by omega) (show gj1 < gj1 + 1 by omega))
            clear hbl hxn hll hput hK2 hil hrow hx hj hjt hBw sC sl hrx hrx2 hrxl hbv
            by_cases hr1 : 1 < row.length
            · have hbt : bv = true := by rw [hbv2, decide_eq_true hr1]; rfl
              subst hbt
              have hr2 : (1 : Int) < (row.length : Int) := by omega
              clear hbv2
              go_wp2_with fail
              go_roundg gj1
              case rel => exact ⟨j + 1, _, hk9.out.1, by go_num, hE⟩
              case measure => exact hk9.out.2
            · have hbt : bv = decide (x ∈ rx) := by rw [hbv2, decide_eq_false hr1]; rfl
              have hr2 : ¬ (1 : Int) < (row.length : Int) := by omega
              have hbt' := Aside0.mk hbt
              clear hbv2 hbt
              go_wp2_with fail
              refine (contains_any AX cX rx x _ hSX.out.1 hSX.out.2.1 hSX.out.2.2).mono ?_
              rintro e' w8 ⟨rfl, nn, rfl⟩
              rw [← hbt'.out]
              have y0' : (wr.drewN nn).cell? ⟨bo, x.toNat, none⟩ = wr.cell? ⟨bo, x.toNat, none⟩ := rfl
              rw [y0] at y0'
              have y1' : (wr.drewN nn).frozen? ⟨bo, x.toNat, none⟩ = wr.frozen? ⟨bo, x.toNat, none⟩ := rfl
              rw [y1] at y1'
              have hE' : Aside0 (((wr.drewN nn).setCell ⟨bo, x.toNat, none⟩ (.bool bv)).heap[bo]? = some (.cells (aB (l2.set x.toNat bv)) 4 (0, 0)) ∧ Below bo w2 ((wr.drewN nn).setCell ⟨bo, x.toNat, none⟩ (.bool bv)) ∧ IX L G.length false (onF G L) i (j + 1) (l2.set x.toNat bv)) := ⟨hE.out.1, ⟨hE.out.2.1.os, hE.out.2.1.tape, hE.out.2.1.output, hE.out.2.1.size, hE.out.2.1.block⟩, hE.out.2.2⟩
              clear hE y0 y1 hSX hbt'
              go_wp2_with fail
              go_roundg gj1
              case rel => exact ⟨j + 1, _, hk9.out.1, by go_num, hE'⟩
              case measure => exact hk9.out.2
          · have hjr : j = row.length := by omega
            have hni : ¬ (j : Int) < (row.length : Int) := by omega
            have hE : Aside0 (wr.heap[bo]? = some (.cells (aB l2) 4 (0, 0)) ∧ Below bo w2 wr ∧ IX L G.length false (onF G L) (i + 1) 0 l2) := by
              obtain ⟨hil, hrow⟩ := hrow'.out
              exact ⟨hK2.out.1, hK2.out.2.1, hK2.out.2.2.row hil (by rw [hrow]; omega)⟩
            have hm9 := hb9.out.2.1
            have hw2 := hb9.out.2.2
            clear hK2 hj hjt hjr
            go_wp2_with fail
            go_roundg gk1
            case rel => exact ⟨i + 1, l2, hb9.out.1, by go_num, hE⟩
            case measure => exact hm9
      · have hin : i = L.length := by omega
        have hni : ¬ (i : Int) < (L.length : Int) := by omega
        have hF : ONC G w (.returned (.slice (some ⟨bo, 0, none⟩) G.length G.length)) wr := by
          have hI := hJ.out.2.2
          rw [hin] at hI
          have hbs := hK.out.2.2.1.size
          rw [hbo'.out] at hbs
          refine ⟨_, _, L, l, by rw [hI.len], ?_, by rw [hI.len]; exact Nat.le_refl _, hK.out.2.1, hI, hK.out.2.2.2.1, hK.out.2.2.1.trans (hJ.out.2.1.mono hbs)⟩
          rw [hI.len]
          exact readsB_raw hJ.out.1 hI.len (by omega)
        have hF' := Aside0.mk hF
        clear hF hJ hK hX hlt hi hin
        go_wp2
        go_ret
        exact hF'.out
end Go.Proofs.Ytmlikgmcekofbaa
end

section
/- What awake answers. -/
set_option linter.unusedVariables false
set_option linter.unusedSimpArgs false
set_option linter.unusedSectionVars false
namespace Go.Proofs.Ytmlikgmcekofbaa
open Go.RowKit Go.Proofs.YtmlikgmcekofbaaW.PrintWords Go.Proofs.Ytmlikgmcekofbaa.PDigraphTells Mem

def exG : List (List Int) := [[1], [0, 2], []]
theorem ex_clean : cleanG exG = exG := by decide
theorem ex_node {x : Int} : isNode exG x ↔ x = 0 ∨ x = 1 ∨ x = 2 := by
  unfold isNode
  rw [show (exG.length : Int) = 3 from rfl]
  omega
theorem ex_r2 {y : Int} (h : Grf.Reach (adj exG) 2 y) : y = 2 := by
  have := h.mem (V := [2]) (fun a ha b hb => by
    obtain rfl : a = 2 := by simpa using ha
    have h0 : adj exG 2 = [] := by decide
    rw [h0] at hb
    exact absurd hb (by simp)) (by simp)
  simpa using this
theorem ex_01 : Grf.Reach (adj exG) 0 1 := .one (by decide)
theorem ex_10 : Grf.Reach (adj exG) 1 0 := .one (by decide)
theorem ex_12 : Grf.Reach (adj exG) 1 2 := .one (by decide)
theorem ex_to {x y : Int} (hx : isNode exG x) (h : Grf.Reach (adj exG) x y) : isNode exG y := by
  have hV : ∀ a ∈ [(0 : Int), 1, 2], ∀ b ∈ adj exG a, b ∈ [(0 : Int), 1, 2] := by decide
  have := h.mem hV (by have := ex_node.1 hx; simpa using this)
  exact ex_node.2 (by simpa using this)
theorem ex_isC : IsC exG [[2], [0, 1]] := by
  refine ⟨fun k hk => ?_, fun x hx => ?_⟩
  · rcases k with _ | _ | k
    · refine ⟨2, by decide, by simp, fun y hy => .inl ?_, fun y hy hlt _ hr => ?_, by simp, fun z => ?_⟩
      · rw [ex_r2 hy]; exact .refl _
      · have h2 : Grf.Reach (adj exG) y 2 := by
          rcases ex_node.1 hy with rfl | rfl | rfl
          · exact ex_01.trans ex_12
          · exact ex_12
          · omega
        rcases hr 2 h2 with h | h
        · have := ex_r2 h; omega
        · simp at h
      · show z ∈ [2] ↔ _
        rw [List.mem_singleton]
        constructor
        · rintro rfl; exact ⟨by decide, .refl _, .refl _⟩
        · intro h; exact ex_r2 h.2.1
    · refine ⟨0, by decide, by simp, fun y hy => ?_, fun y hy hlt _ _ => ?_, by simp, fun z => ?_⟩
      · rcases ex_node.1 (ex_to (by decide) hy) with rfl | rfl | rfl
        · exact .inl (.refl _)
        · exact .inl ex_10
        · exact .inr (by simp)
      · have := hy.1; omega
      · show z ∈ [0, 1] ↔ _
        constructor
        · intro hz
          have : z = 0 ∨ z = 1 := by simpa using hz
          rcases this with rfl | rfl
          · exact ⟨by decide, .refl _, .refl _⟩
          · exact ⟨by decide, ex_01, ex_10⟩
        · rintro ⟨h, h1, h2⟩
          rcases ex_node.1 h with rfl | rfl | rfl
          · simp
          · simp
          · exact absurd (ex_r2 h2) (by decide)
    · simp at hk; omega
  · rcases ex_node.1 hx with rfl | rfl | rfl <;> simp
theorem ex_ix {l : List Int} (h : IX [[2], [0, 1]] 3 0 (fun k _ => (k : Int)) 2 0 l) : l = [1, 1, 0] := by
  refine IX.uniq ex_isC h ⟨rfl, fun k hk z hz _ => ?_⟩
  rcases k with _ | _ | k
  · obtain rfl : z = 2 := by simpa using hz
    rfl
  · have : z = 0 ∨ z = 1 := by simpa using hz
    rcases this with rfl | rfl <;> rfl
  · simp at hk; omega
theorem ex_on {l : List Bool} (h : IX [[2], [0, 1]] 3 false (onF exG [[2], [0, 1]]) 2 0 l) : l = [true, true, false] := by
  refine IX.uniq ex_isC h ⟨rfl, fun k hk z hz _ => ?_⟩
  rcases k with _ | _ | k
  · obtain rfl : z = 2 := by simpa using hz
    decide
  · have : z = 0 ∨ z = 1 := by simpa using hz
    rcases this with rfl | rfl <;> decide
  · simp at hk; omega
theorem ex_sm : Sm exG := ⟨by decide, ⟨by decide, by decide⟩, by decide⟩

theorem lit_ints (w : World) (cs : Array Value) (e : Nat) (xs : List Int) (g : Nat) (hg : w.heap.size = g) (hcs : cs.toList = xs.map (Value.int .i64)) (hm : xs.length ≤ 1000) : Kd.C (Kd.int .i64) (w.alloc (.cells cs e (0, 0))) (some ⟨g, 0, none⟩) xs.length xs := by
  subst hg
  refine ⟨rfl, by omega, fun _ => ⟨_, rfl, fun j p hj => ⟨[.int .i64 p], rfl, rfl, fun i u hu => ?_⟩⟩⟩
  rcases i with _ | i
  · simp at hu
    subst hu
    rw [show (Kd.int IntKind.i64).sz = 1 from rfl, Nat.mul_one, Nat.add_zero, show (⟨w.heap.size, 0, none⟩ : Addr).add j = ⟨w.heap.size, j, none⟩ from by rcases j with _ | j <;> simp [Addr.add]]
    refine cell_at (heap_alloc_new w _) ?_
    rw [← Array.getElem?_toList, hcs]
    simp [hj]
  · simp at hu
theorem lit_bools (w : World) (cs : Array Value) (e : Nat) (xs : List Bool) (g : Nat) (hg : w.heap.size = g) (hcs : cs.toList = xs.map Value.bool) (hm : xs.length ≤ 1000) : Kd.C Kd.bool (w.alloc (.cells cs e (0, 0))) (some ⟨g, 0, none⟩) xs.length xs := by
  subst hg
  refine ⟨rfl, by omega, fun _ => ⟨_, rfl, fun j p hj => ⟨[.bool p], rfl, rfl, fun i u hu => ?_⟩⟩⟩
  rcases i with _ | i
  · simp at hu
    subst hu
    rw [show Kd.bool.sz = 1 from rfl, Nat.mul_one, Nat.add_zero, show (⟨w.heap.size, 0, none⟩ : Addr).add j = ⟨w.heap.size, j, none⟩ from by rcases j with _ | j <;> simp [Addr.add]]
    refine cell_at (heap_alloc_new w _) ?_
    rw [← Array.getElem?_toList, hcs]
    simp [hj]
  · simp at hu
theorem lit_rows (w : World) (cs : Array Value) (e : Nat) (xs : List (List Int)) (g : Nat) (hg : w.heap.size = g) (hm : xs.length ≤ 1000) (h : ∀ (j : Nat) (x : List Int), xs[j]? = some x → ∃ A c, cs[j]? = some (.slice A x.length c) ∧ x.length ≤ c ∧ Kd.C (Kd.int .i64) w A x.length x) : Kd.C kG (w.alloc (.cells cs e (0, 0))) (some ⟨g, 0, none⟩) xs.length xs := by
  subst hg
  refine ⟨rfl, by omega, fun _ => ⟨_, rfl, fun j p hj => ?_⟩⟩
  obtain ⟨A, c, h1, h2, h3⟩ := h j p hj
  refine ⟨[.slice A p.length c], rfl, ⟨A, c, rfl, h2, Kd.C_alloc h3 _⟩, fun i u hu => ?_⟩
  rcases i with _ | i
  · simp at hu
    subst hu
    rw [show (Kd.slice 3 (Kd.int IntKind.i64)).sz = 1 from rfl, Nat.mul_one, Nat.add_zero, show (⟨w.heap.size, 0, none⟩ : Addr).add j = ⟨w.heap.size, j, none⟩ from by rcases j with _ | j <;> simp [Addr.add]]
    exact cell_at (heap_alloc_new w _) h1
  · simp at hu
theorem ex_lit (w : World) : Kd.C kG (((w.alloc (.cells #[.int .i64 1] 3)).alloc (.cells #[.int .i64 0, .int .i64 2] 3)).alloc (.cells #[.slice (some ⟨w.heap.size, 0, none⟩) 1 1, .slice (some ⟨w.heap.size + 1, 0, none⟩) 2 2, .slice none 0 0] 29)) (some ⟨w.heap.size + 1 + 1, 0, none⟩) 3 exG := by
  refine lit_rows _ _ _ exG _ (by simp) (by decide) fun j x hj => ?_
  rcases j with _ | _ | _ | j
  · obtain rfl : [1] = x := by simpa [exG] using hj
    exact ⟨_, _, rfl, Nat.le_refl _, Kd.C_alloc (lit_ints w _ 3 [1] _ rfl rfl (by decide)) _⟩
  · obtain rfl : [0, 2] = x := by simpa [exG] using hj
    exact ⟨_, _, rfl, Nat.le_refl _, lit_ints _ _ 3 [0, 2] _ (by simp) rfl (by decide)⟩
  · obtain rfl : [] = x := by simpa [exG] using hj
    exact ⟨none, 0, rfl, Nat.le_refl _, Kd.C_nil _ _⟩
  · simp [exG] at hj
/-- slices.Equal against a row written just now. -/
theorem same_lit {A : Option Addr} {c n : Nat} {x : List Int} {w : World} (hA : Kd.C (Kd.int .i64) w A n x) (hc : n ≤ c) (hn : x.length = n) (cs : Array Value) (hcs : cs.toList = x.map (Value.int .i64)) (hl : x.length ≤ 1000) :
    Calls Try.prog 11 #[.slice A n c, .slice (some ⟨w.heap.size, 0, none⟩) n n] (w.alloc (.cells cs 3)) fun e w' => e = .returned (.bool true) ∧ Below w.heap.size w w' := by
  subst hn
  refine (equal_any A c x (some ⟨w.heap.size, 0, none⟩) x.length x _ (Kd.C_alloc hA _) hc (lit_ints w cs 3 x _ rfl hcs hl) (Nat.le_refl _) (by omega)).mono ?_
  rintro e w1 ⟨rfl, ⟨m, rfl⟩⟩
  exact ⟨by simp, pw_below_drewN (below_alloc (Below.refl _ w) _) _⟩
theorem same_litB {A : Option Addr} {c n : Nat} {x : List Bool} {w : World} (hA : Kd.C Kd.bool w A n x) (hc : n ≤ c) (hn : x.length = n) (cs : Array Value) (hcs : cs.toList = x.map Value.bool) (hl : x.length ≤ 1000) :
    Calls Try.prog 14 #[.slice A n c, .slice (some ⟨w.heap.size, 0, none⟩) n n] (w.alloc (.cells cs 4)) fun e w' => e = .returned (.bool true) ∧ Below w.heap.size w w' := by
  subst hn
  refine (equalB_any A c x (some ⟨w.heap.size, 0, none⟩) x.length x _ (Kd.C_alloc hA _) hc (lit_bools w cs 4 x _ rfl hcs hl) (Nat.le_refl _) (by omega)).mono ?_
  rintro e w1 ⟨rfl, ⟨m, rfl⟩⟩
  exact ⟨by simp, pw_below_drewN (below_alloc (Below.refl _ w) _) _⟩
/-- The example in memory. -/
def EX (gb : Nat) (w w' : World) : Prop := Below w.heap.size w w' ∧ Kd.C kG w' (some ⟨gb + 2, 0, none⟩) 3 exG ∧ w'.heap[gb + 3]? = some (.cells #[.slice (some ⟨gb + 2, 0, none⟩) 3 3] 24 (0, 0))
theorem EX.below {gb : Nat} {w w1 w2 : World} (h : EX gb w w1) (hb : Below w1.heap.size w1 w2) : EX gb w w2 :=
  ⟨h.1.trans (hb.mono h.1.size), Kd.C_below h.2.1 hb, (hb.block _ (blk_lt' h.2.2)).trans h.2.2⟩
theorem EX.cell {gb : Nat} {w w' : World} (h : EX gb w w') : w'.cell? ⟨gb + 3, 0, none⟩ = some (.slice (some ⟨gb + 2, 0, none⟩) 3 3) := cell_at h.2.2 rfl
theorem ex_mk (w : World) {gb : Nat} (hgb : w.heap.size = gb) : ∃ w1, ((((w.alloc (.cells #[.int .i64 1] 3)).alloc (.cells #[.int .i64 0, .int .i64 2] 3)).alloc (.cells #[.slice (some ⟨gb, 0, none⟩) 1 1, .slice (some ⟨gb + 1, 0, none⟩) 2 2, .slice none 0 0] 29)).alloc (.cells #[.slice (some ⟨gb + 2, 0, none⟩) 3 3] 24)) = w1 ∧ EX gb w w1 := by
  subst hgb
  refine ⟨_, rfl, below_alloc (below_alloc (below_alloc (below_alloc (Below.refl _ w) _) _) _) _, Kd.C_alloc (ex_lit w) _, ?_⟩
  have := heap_alloc_new (((w.alloc (.cells #[.int .i64 1] 3)).alloc (.cells #[.int .i64 0, .int .i64 2] 3)).alloc (.cells #[.slice (some ⟨w.heap.size, 0, none⟩) 1 1, .slice (some ⟨w.heap.size + 1, 0, none⟩) 2 2, .slice none 0 0] 29)) (.cells #[.slice (some ⟨w.heap.size + 2, 0, none⟩) 3 3] 24)
  simpa using this
theorem ex_comps {w : World} {A : Option Addr} (h : Kd.C kG w A 3 exG) : Calls Try.prog 9 #[.agg #[.slice A 3 3]] w fun e w' => ∃ ad c, e = .returned (.slice (some ad) 2 c) ∧ Kd.C kG w' (some ad) 2 [[2], [0, 1]] ∧ Below w.heap.size w w' := by
  refine (comps_any A 3 exG w h (Nat.le_refl _) ex_sm).mono ?_
  rintro e w' ⟨A2, c2, L, rfl, hL, hI, _, B⟩
  rw [ex_clean] at hI
  obtain rfl := hI.uniq ex_isC
  obtain ⟨ad, rfl⟩ := hL.pos (by decide)
  exact ⟨ad, c2, rfl, hL.C, B⟩
theorem ex_index {w : World} {A : Option Addr} (h : Kd.C kG w A 3 exG) : Calls Try.prog 12 #[.agg #[.slice A 3 3]] w fun e w' => ∃ A2 c, e = .returned (.slice A2 3 c) ∧ Kd.C (Kd.int .i64) w' A2 3 [1, 1, 0] ∧ 3 ≤ c ∧ Below w.heap.size w w' := by
  refine (index_any A 3 exG w h (Nat.le_refl _) ex_sm).mono ?_
  rintro e w' ⟨A2, c2, L, l, rfl, hC, hc, hI, hX, _, B⟩
  rw [ex_clean] at hI
  obtain rfl := hI.uniq ex_isC
  obtain rfl := ex_ix hX
  exact ⟨A2, c2, rfl, hC, hc, B⟩
theorem ex_onc {w : World} {A : Option Addr} (h : Kd.C kG w A 3 exG) : Calls Try.prog 15 #[.agg #[.slice A 3 3]] w fun e w' => ∃ A2 c, e = .returned (.slice A2 3 c) ∧ Kd.C Kd.bool w' A2 3 [true, true, false] ∧ 3 ≤ c ∧ Below w.heap.size w w' := by
  refine (onc_any A 3 exG w h (Nat.le_refl _) ex_sm).mono ?_
  rintro e w' ⟨A2, c2, L, l, rfl, hC, hc, hI, hX, _, B⟩
  rw [ex_clean] at hI
  obtain rfl := hI.uniq ex_isC
  obtain rfl := ex_on hX
  exact ⟨A2, c2, rfl, hC, hc, B⟩
set_option maxRecDepth 100000 in
set_option maxHeartbeats 8000000 in
theorem awake_any (w : World) : Calls Try.prog 8 #[] w fun e w' => e = .returned (.bool true) ∧ Below w.heap.size w w' := by
  go_enter Try.func8, Try.ntmps8
  go_upto_region 2 with fail
  obtain ⟨gb, hgb⟩ : ∃ gb, w.heap.size = gb := ⟨_, rfl⟩
  obtain ⟨w1, hw1, hE⟩ := ex_mk w hgb
  rw [hgb]
  rw [show gb + 1 + 1 + 1 = gb + 3 from rfl, show gb + 1 + 1 = gb + 2 from rfl]
  rw [hw1]
  clear hw1 hgb
  replace hE := Aside0.mk hE
  refine Held.begin_ (S := fun W1 => W1.cell? ⟨gb + 3, 0, none⟩ = some (.slice (some ⟨gb + 2, 0, none⟩) 3 3)) 4 (by kernel_rfl) (by kernel_rfl) ?_ (fun hHeld => ?_)
  · exact hE.out.cell
  simp only [List.length_cons, List.length_nil, Nat.reduceAdd, List.replicate, Array.replicate]
  refine Held.take_ (v := ?vv1206500) 0 rfl rfl (by kernel_rfl) (by kernel_rfl) (fun _ _ _ h => h) (by assumption) (Or.inl ⟨by rfl, ?hy1206500⟩) ?_
  case hy1206500 => intro w hSw; (try dsimp only at hSw); (go_simp <;> with_reducible rfl)
  try simp only [Act.put, List.setIfInBounds_toArray, List.set_cons_zero, List.set_cons_succ]
  refine Held.take_ (v := ?vv1206502) 2 rfl rfl (by kernel_rfl) (by kernel_rfl) (fun _ _ _ h => h) (by assumption) (Or.inl ⟨by rfl, ?hy1206502⟩) ?_
  case hy1206502 => intro w hSw; (try dsimp only at hSw); (go_simp <;> with_reducible rfl)
  try simp only [Act.put, List.setIfInBounds_toArray, List.set_cons_zero, List.set_cons_succ]
  refine Held.step_ 1 rfl rfl (by kernel_rfl) (fun K hK => ?_)
  go_simp
  go_at_call 9
  refine (ex_comps (Kd.C_below hE.out.2.1 (below_drew (Below.refl _ _)))).mono ?_
  rintro e' w2 ⟨ad, c2, rfl, hC2, Bx⟩
  have E2 := Aside0.mk (And.intro ((hE.out.below (below_drew (Below.refl _ _))).below Bx) hC2)
  have f2 := E2.out.1.cell
  clear Bx hC2 hE
  go_wp2_with fail
  refine hK.out _ _ f2 (fun hHeld2 => ?_)
  clear hK K
  try simp only [Act.put, List.setIfInBounds_toArray, List.set_cons_zero, List.set_cons_succ]
  refine Held.step_ 3 rfl rfl (by kernel_rfl) (fun K hK => ?_)
  go_simp
  go_at_call 15
  refine (ex_onc E2.out.1.2.1).mono ?_
  rintro e' w3 ⟨A3, c3, rfl, hC3, hc3, Bx⟩
  have E3 := Aside0.mk (And.intro (E2.out.1.below Bx) (And.intro (Kd.C_below E2.out.2 Bx) (And.intro hC3 hc3)))
  have f3 := E3.out.1.cell
  clear Bx hC3 hc3 E2
  go_wp2_with fail
  refine hK.out _ _ f3 (fun hHeld3 => ?_)
  clear hK K
  try simp only [Act.put, List.setIfInBounds_toArray, List.set_cons_zero, List.set_cons_succ]
  refine Held.rest_ (by kernel_rfl) ?_
  simp only [List.drop_succ_cons, List.drop_zero]
  clear hHeld hHeld2 hHeld3 f2 f3
  obtain ⟨ad', A0, c0, eA, x0, hl0, C0⟩ := at_L1 E3.out.2.1 (0 : Int) (by decide) (by decide)
  injection eA with eA
  subst eA
  obtain ⟨ad', A1, c1, eA, x1, hl1, C1⟩ := at_L1 E3.out.2.1 (1 : Int) (by decide) (by decide)
  injection eA with eA
  subst eA
  have E4 := Aside0.mk (And.intro E3.out.1 (And.intro E3.out.2.2 (And.intro (show Kd.C (Kd.int .i64) w3 A0 1 [2] from C0) (And.intro (show 1 ≤ c0 from hl0) (And.intro (show Kd.C (Kd.int .i64) w3 A1 2 [0, 1] from C1) (And.intro (show 2 ≤ c1 from hl1) (show w3.cell? ⟨ad.block, ad.off + 1, none⟩ = some (.slice A1 2 c1) from x1)))))))
  replace x0 : w3.cell? ad = some (.slice A0 1 c0) := by
    have h9 : ad.add 0 = ad := by simp [Addr.add]
    rw [← h9]
    exact x0
  clear hl0 hl1 C0 C1 E3 x1
  go_wp2_with fail
  refine (same_lit E4.out.2.2.1 E4.out.2.2.2.1 rfl _ rfl (by decide)).mono ?_
  rintro e' w4 ⟨rfl, Bx⟩
  have E5 := Aside0.mk (And.intro (E4.out.1.below Bx) (And.intro (Kd.C_below E4.out.2.1.1 Bx) (And.intro E4.out.2.1.2 (And.intro (Kd.C_below E4.out.2.2.2.2.1 Bx) E4.out.2.2.2.2.2.1))))
  have x1 := (Below.cell Bx (World.block_lt_of_cell? _ _ E4.out.2.2.2.2.2.2)).trans E4.out.2.2.2.2.2.2
  clear Bx E4 x0
  go_wp2_with fail
  refine (same_lit E5.out.2.2.2.1 E5.out.2.2.2.2 rfl _ rfl (by decide)).mono ?_
  rintro e' w5 ⟨rfl, Bx⟩
  have E6 := Aside0.mk (And.intro (E5.out.1.below Bx) (And.intro (Kd.C_below E5.out.2.1 Bx) E5.out.2.2.1))
  have f6 := E6.out.1.cell
  clear Bx E5 x1
  go_wp2_with fail
  refine (ex_index E6.out.1.2.1).mono ?_
  rintro e' w6 ⟨A6, c6, rfl, hC6, hc6, Bx⟩
  have E7 := Aside0.mk (And.intro (E6.out.1.below Bx) (And.intro (Kd.C_below E6.out.2.1 Bx) (And.intro E6.out.2.2 (And.intro hC6 hc6))))
  clear Bx E6 f6 hC6 hc6
  go_wp2_with fail
  refine (same_lit E7.out.2.2.2.1 E7.out.2.2.2.2 rfl _ rfl (by decide)).mono ?_
  rintro e' w7 ⟨rfl, Bx⟩
  have E8 := Aside0.mk (And.intro (E7.out.1.below Bx) (And.intro (Kd.C_below E7.out.2.1 Bx) E7.out.2.2.1))
  clear Bx E7
  go_wp2_with fail
  refine (same_litB E8.out.2.1 E8.out.2.2 rfl _ rfl (by decide)).mono ?_
  rintro e' w8 ⟨rfl, Bx⟩
  have E9 := Aside0.mk (E8.out.1.below Bx).1
  clear Bx E8
  go_wp2
  go_ret
  exact ⟨rfl, E9.out⟩
end Go.Proofs.Ytmlikgmcekofbaa
end

section
/- An argument's reading opened by its kind: whole numbers, bools, strings, slices and structs of these, to any depth. -/
set_option linter.unusedVariables false
set_option linter.unusedSimpArgs false
namespace Go.Proofs.Ytmlikgmcekofbaa.Opens
open Go.RowKit Go.Proofs.YtmlikgmcekofbaaW.PrintWords Go.Proofs.Ytmlikgmcekofbaa.Mem Go.Deep

variable {H : Type} {enc : TypeId × Value → H} {P : Program} {W : World}

/-- Whatever cells read as a datum of type t hold a value of kind d, which is good. -/
structure Op {α : Type} (enc : TypeId × Value → H) (P : Program) (W : World) (t : TypeId) (d : Kd α) (good : α → Prop) : Prop where
  op : ∀ {fuel : Nat} {cs : List Value} {x : DataW H × List MemPlace}, DataW.trod enc P W 0 (fun _ => true) true fuel t cs = some x → (∀ n ∈ x.1.weights P t, n ≤ reachBytes) → ∃ y, d.K W y cs ∧ good y

theorem Op.int {t : TypeId} {k : IntKind} (ht : P.underlying t = some (.int k)) : Op enc P W t (Kd.int k) (fun n => (Lit.int k n).wf = true) :=
  ⟨fun h _ => by
    obtain ⟨n, rfl, _, hw⟩ := DataW.trod_int ht h
    exact ⟨n, rfl, hw⟩⟩
theorem Op.bool {t : TypeId} (ht : P.underlying t = some .bool) : Op enc P W t Kd.bool (fun _ => True) :=
  ⟨fun h _ => by
    obtain ⟨n, rfl, _⟩ := DataW.trod_bool ht h
    exact ⟨n, rfl, trivial⟩⟩
theorem Op.string {t : TypeId} (ht : P.underlying t = some .string) : Op enc P W t Kd.string (fun s => s.size ≤ 140737488351232) :=
  ⟨fun h hw => by
    obtain ⟨s, rfl, rfl, _⟩ := DataW.trod_string ht h
    exact ⟨s, rfl, by simpa [DataW.weights, reachBytes] using hw⟩⟩

theorem cell_of_cells {w : World} {a : Addr} {n : Nat} {cs : List Value} (h : w.cells? 0 a n = some cs) : cs.length = n ∧ ∀ i u, cs[i]? = some u → w.cell? (a.add i) = some u := by
  unfold World.cells? at h
  rw [if_pos (Nat.zero_le _)] at h
  have key : ∀ (l : List Nat) (cs : List Value), l.mapM (fun i => w.cell? (a.add i)) = some cs → cs.length = l.length ∧ ∀ (i j : Nat) u, l[i]? = some j → cs[i]? = some u → w.cell? (a.add j) = some u := by
    intro l
    induction l with
    | nil =>
      intro cs h
      simp at h
      subst h
      simp
    | cons b r ih =>
      intro cs h
      simp only [List.mapM_cons, Option.bind_eq_bind, Option.bind_eq_some_iff] at h
      obtain ⟨v, hv, ys, hys, he⟩ := h
      obtain rfl : v :: ys = cs := by simpa using he
      obtain ⟨h1, h2⟩ := ih ys hys
      refine ⟨by simp [h1], fun i j u hi hu => ?_⟩
      cases i with
      | zero => simp at hi hu; subst hi; subst hu; exact hv
      | succ i => exact h2 i j u (by simpa using hi) (by simpa using hu)
  obtain ⟨h1, h2⟩ := key _ _ h
  refine ⟨by simpa using h1, fun i u hu => h2 i i u ?_ hu⟩
  have hl : i < cs.length := (List.getElem?_eq_some_iff.1 hu).1
  rw [h1] at hl
  simp at hl
  simp [hl]

theorem weights_all {e : TypeId} : ∀ (l : List (DataW H)) (n : Nat) (i : Nat) (d : DataW H), l[i]? = some d → n ∈ d.weights P e → n ∈ DataW.weightsAll P e l
  | [], _, _, _, h, _ => by simp at h
  | d0 :: r, n, 0, d, h, hn => by
    simp at h
    subst h
    rw [DataW.weightsAll]
    exact List.mem_append_left _ hn
  | d0 :: r, n, i + 1, d, h, hn => by
    rw [DataW.weightsAll]
    exact List.mem_append_right _ (weights_all r n i d (by simpa using h) hn)

theorem build {β : Type} {n : Nat} {p : Nat → β → Prop} (h : ∀ i, i < n → ∃ y, p i y) : ∃ xs : List β, xs.length = n ∧ ∀ i, i < n → ∃ y, xs[i]? = some y ∧ p i y := by
  induction n with
  | zero => exact ⟨[], rfl, fun i hi => by omega⟩
  | succ m ih =>
    obtain ⟨xs, h1, h2⟩ := ih (fun i hi => h i (by omega))
    obtain ⟨y, g⟩ := h m (by omega)
    refine ⟨xs ++ [y], by simp [h1], fun i hi => ?_⟩
    by_cases e : i < m
    · obtain ⟨y', h3, g'⟩ := h2 i e
      exact ⟨y', by rw [List.getElem?_append_left (by omega)]; exact h3, g'⟩
    · obtain rfl : i = m := by omega
      exact ⟨y, by rw [← h1]; simp, g⟩

theorem Op.slice {α : Type} {t e : TypeId} {d : Kd α} {good : α → Prop} {B : Nat} (h : Op enc P W e d good) (ht : P.underlying t = some (.slice e)) (hc : P.cellsOf e = d.sz) (hB : P.bytesOf e = B) :
    Op enc P W t (Kd.slice e d) (fun xs => xs.length * B ≤ 140737488351232 ∧ ∀ x ∈ xs, good x) := by
  refine ⟨fun {fuel cs x} hx hw => ?_⟩
  rcases DataW.trod_slice ht hx with ⟨rfl, rfl⟩ | ⟨a, len, cap, elems, rest, n, rfl, rfl, rfl, _, hl, hm, hel, hcell, _, _⟩
  · exact ⟨[], ⟨none, 0, rfl, Nat.le_refl _, Kd.C_nil d W⟩, by simp, fun x hx => by simp at hx⟩
  · have hsz : (elems.length + rest.length) * B ≤ 140737488351232 := by
      have := hw ((elems.length + rest.length) * P.bytesOf e) (by simp [DataW.weights, ht])
      simpa [hB, reachBytes] using this
    have each : ∀ i, i < len → ∃ y c, c.length = d.sz ∧ (∀ j u, c[j]? = some u → W.cell? ((a.add (i * d.sz)).add j) = some u) ∧ d.K W y c ∧ good y := by
      intro i hi
      have h1 := hcell i hi
      have hi2 : i < elems.length := by omega
      rw [List.getElem?_eq_getElem hi2, Option.bind_eq_some_iff] at h1
      obtain ⟨c, hc1, hc2⟩ := h1
      obtain ⟨y, hy, hg⟩ := h.op hc2 (fun n hn => hw n (by
        simp only [DataW.weights, ht]
        refine List.mem_cons_of_mem _ (List.mem_append_left _ (weights_all _ n i elems[i].1 ?_ hn))
        simp [hi2]))
      rw [hc] at hc1
      obtain ⟨g1, g2⟩ := cell_of_cells hc1
      exact ⟨y, c, g1, g2, hy, hg⟩
    have hxs : ∃ xs : List α, xs.length = len ∧ ∀ i, i < len → ∃ y, xs[i]? = some y ∧ ∃ c, c.length = d.sz ∧ (∀ j u, c[j]? = some u → W.cell? ((a.add (i * d.sz)).add j) = some u) ∧ d.K W y c ∧ good y := build each
    obtain ⟨xs, h1, h2⟩ := hxs
    refine ⟨xs, ⟨some a, cap, by rw [h1], by omega, ?_⟩, ?_, ?_⟩
    · refine ⟨rfl, by rw [h1]; unfold maxLen at hm; omega, fun _ => ⟨a, rfl, fun j p hj => ?_⟩⟩
      have hjl : j < len := by
        have := (List.getElem?_eq_some_iff.1 hj).1
        omega
      obtain ⟨y, e1, c, g1, g2, g3, g4⟩ := h2 j hjl
      rw [hj] at e1
      injection e1 with e1
      subst e1
      refine ⟨c, g1, g3, fun i u hu => ?_⟩
      have := g2 i u hu
      rwa [Go.Deep.add_add] at this
    · refine Nat.le_trans (Nat.mul_le_mul_right _ ?_) hsz
      omega
    · intro x hx
      obtain ⟨i, hi, rfl⟩ := List.getElem_of_mem hx
      obtain ⟨y, e1, c, g1, g2, g3, g4⟩ := h2 i (by omega)
      rw [List.getElem?_eq_getElem hi] at e1
      injection e1 with e1
      exact e1 ▸ g4

/-- The fields fs of a struct, from the cell at off on, hold a value of kind d. -/
structure Fs {α : Type} (enc : TypeId × Value → H) (P : Program) (W : World) (fs : List Field) (off : Nat) (d : Kd α) (good : α → Prop) : Prop where
  op : ∀ {fuel : Nat} {cs : List Value} {xs : List (DataW H × List MemPlace)}, xs.length = fs.length → (∀ (i : Nat) (f : Field), fs[i]? = some f → DataW.trod enc P W 0 (fun _ => true) true fuel f.type ((cs.drop f.offset).take (P.cellsOf f.type)) = xs[i]?) →
    (∀ n ∈ DataW.weightsEach P (fs.map (·.type)) (xs.map (·.1)), n ≤ reachBytes) → ∃ y, d.K W y ((cs.drop off).take d.sz) ∧ good y

theorem Fs.one {α : Type} {f : Field} {d : Kd α} {good : α → Prop} (h : Op enc P W f.type d good) (hc : P.cellsOf f.type = d.sz) : Fs enc P W [f] f.offset d good := by
  refine ⟨fun {fuel cs xs} hl hx hw => ?_⟩
  match xs, hl with
  | [x], _ =>
    have h1 := hx 0 f rfl
    obtain ⟨y, hy, hg⟩ := h.op h1 (fun n hn => hw n (by simp [DataW.weightsEach, hn]))
    rw [hc] at hy
    exact ⟨y, hy, hg⟩
theorem Fs.cons {α β : Type} {f : Field} {fs : List Field} {a : Kd α} {b : Kd β} {ga : α → Prop} {gb : β → Prop} {off : Nat} (h : Op enc P W f.type a ga) (k : Fs enc P W fs off b gb) (hc : P.cellsOf f.type = a.sz) (ho : off = f.offset + a.sz) :
    Fs enc P W (f :: fs) f.offset (Kd.pair a b) (fun x => ga x.1 ∧ gb x.2) := by
  refine ⟨fun {fuel cs xs} hl hx hw => ?_⟩
  match xs, hl with
  | x :: r, hl =>
    have h1 := hx 0 f rfl
    obtain ⟨y, hy, hg⟩ := h.op h1 (fun n hn => hw n (by simp [DataW.weightsEach, hn]))
    obtain ⟨z, hz, hgz⟩ := k.op (cs := cs) (xs := r) (by simpa using hl) (fun i f' hf => by simpa using hx (i + 1) f' (by simpa using hf)) (fun n hn => hw n (by
      simp only [List.map_cons, DataW.weightsEach]
      exact List.mem_append_right _ hn))
    rw [hc] at hy
    refine ⟨(y, z), ⟨_, _, ?_, hy, hz⟩, hg, hgz⟩
    rw [ho, ← List.drop_drop]
    show List.take (a.sz + b.sz) _ = _
    rw [List.take_add]
theorem Op.struct {α β : Type} {t : TypeId} {fs : Array Field} {l : List Field} {d : Kd α} {good : α → Prop} (h : Fs enc P W l 0 d good) (ht : P.underlying t = some (.struct fs)) (hl : fs.toList = l) (hc : P.cellsOf t = d.sz) (f : β → α) (g : α → β) (hfg : ∀ z, f (g z) = z) :
    Op enc P W t (Kd.iso d f) (fun y => good (f y)) := by
  refine ⟨fun {fuel cs x} hx hw => ?_⟩
  obtain ⟨xs, n, rfl, rfl, hcs, hxl, hall⟩ := DataW.trod_struct ht hx
  obtain ⟨y, hy, hg⟩ := h.op (fuel := n) (cs := cs) (xs := xs) (by rw [← hl]; simpa using hxl) (fun i f' hf => hall i f' (by rw [← hl] at hf; simpa using hf)) (fun n hn => hw n (by simpa [DataW.weights, ht, hl] using hn))
  refine ⟨g y, ?_, by rw [hfg]; exact hg⟩
  show d.K W (f (g y)) cs
  rw [hfg]
  have e : (cs.drop 0).take d.sz = cs := by rw [List.drop_zero, ← hc, ← hcs, List.take_length]
  rwa [e] at hy
theorem Op.imp {α : Type} {t : TypeId} {d : Kd α} {good good' : α → Prop} (h : Op enc P W t d good) (hg : ∀ x, good x → good' x) : Op enc P W t d good' := ⟨fun hx hw => by
  obtain ⟨y, hy, hgy⟩ := h.op hx hw
  exact ⟨y, hy, hg y hgy⟩⟩

/-- An argument that is a struct. -/
theorem Op.arg_agg {α : Type} {t : TypeId} {d : Kd α} {good : α → Prop} {v : Value} {x : DataW H} {p : List MemPlace} (h : Op enc P W t d good) (hv : ∃ cs, v = .agg cs) (hx : DataW.Trod enc P W 0 (fun _ => true) true t v x p)
    (hw : ∀ n ∈ x.weights P t, n ≤ reachBytes) : ∃ y cs, v = .agg cs ∧ d.K W y cs.toList ∧ good y := by
  obtain ⟨cs, rfl⟩ := hv
  obtain ⟨fuel, hf⟩ := hx
  obtain ⟨y, hy, hg⟩ := h.op hf hw
  exact ⟨y, cs, rfl, by simpa [Value.cells] using hy, hg⟩
theorem weight_of {ts : List TypeId} {ds : List (DataW H)} (h : (DataW.weightsEach P ts ds).all (· ≤ reachBytes) = true) {j : Nat} {t : TypeId} {d : DataW H} (ht : ts[j]? = some t) (hd : ds[j]? = some d) : ∀ n ∈ d.weights P t, n ≤ reachBytes :=
  fun n hn => by simpa using List.all_eq_true.1 h n (DataW.weights_mem_each ht hd n hn)
end Go.Proofs.Ytmlikgmcekofbaa.Opens
end

section
/- What the laws' walks share: the argument, the world. -/
set_option linter.unusedVariables false
set_option linter.unusedSimpArgs false
set_option linter.unusedSectionVars false
namespace Go.Proofs.Ytmlikgmcekofbaa
open Go.RowKit Go.Proofs.YtmlikgmcekofbaaW.PrintWords Go.Proofs.Ytmlikgmcekofbaa.PDigraphTells Mem

theorem field_succs (A : Option Addr) (n c : Nat) (w : World) : (Instr.field 24 (.agg #[.slice A n c]) 0).run Try.prog w = .ok (.slice A n c) w := by kernel_rfl
def fSuccs : Field := { name := "Succs", type := 22, offset := 0, embedded := false, tag := "", pkgPath := "", byteOffset := 0 }
def kGr : Kd (List (List Int)) := Kd.iso (Kd.slice 29 kG) (fun x : List (List Int) => x)
/-- What an argument's weights say about a graph. -/
structure big (G : List (List Int)) : Prop where
  len : G.length * 24 ≤ 140737488351232
  row : ∀ l ∈ G, l.length * 8 ≤ 140737488351232
theorem graph_op {H : Type} {enc : TypeId × Value → H} {W : World} : Opens.Op enc Try.prog W 24 kGr big :=
  (Opens.Op.struct (Opens.Fs.one (f := fSuccs) (Opens.Op.slice (B := 24) (Opens.Op.slice (B := 8) (Opens.Op.int Try.underlying3) Try.underlying29 (by kernel_rfl) (by kernel_rfl)) Try.underlying22 (by kernel_rfl) (by kernel_rfl)) (by kernel_rfl)) Try.underlying24 rfl (by kernel_rfl) (fun x : List (List Int) => x) (fun x => x) (fun _ => rfl)).imp
    (fun G h => ⟨h.1, fun l hl => (h.2 l hl).1⟩)
theorem big.short {G : List (List Int)} (h : big G) : short G := ⟨by have := h.len; omega, fun l hl => by have := h.row l hl; omega⟩
theorem graph_arg {cs : Array Value} {G : List (List Int)} {w : World} (h : kGr.K w G cs.toList) : ∃ A c, cs = #[.slice A G.length c] ∧ G.length ≤ c ∧ Kd.C kG w A G.length G := by
  obtain ⟨A, c, h1, h2, h3⟩ := h
  exact ⟨A, c, by have := congrArg List.toArray h1; simpa using this, h2, h3⟩
theorem Sml.sm {G : List (List Int)} (h : Sml G) (hs : short G) : Sm G := ⟨by have := h.1; omega, hs, by have := h.2; omega⟩
/-- The law's world: its argument lies at gb, the graph's rows are there, and nothing below has changed. -/
structure Gw (w wi : World) (gb : Nat) (A : Option Addr) (c : Nat) (G : List (List Int)) : Prop where
  b : Below w.heap.size w wi
  C : Kd.C kG wi A G.length G
  g : wi.heap[gb]? = some (.cells #[.slice A G.length c] 24 (0, 0))
theorem Gw.start {w : World} {A : Option Addr} {c : Nat} {G : List (List Int)} (h : Kd.C kG w A G.length G) : Gw w (w.alloc (.cells #[.slice A G.length c] 24 (0, 0))) w.heap.size A c G :=
  ⟨below_alloc (Below.refl _ _) _, Kd.C_alloc h _, heap_alloc_new w _⟩
theorem Gw.step {w wi wj : World} {gb : Nat} {A : Option Addr} {c : Nat} {G : List (List Int)} (h : Gw w wi gb A c G) (hb : Below wi.heap.size wi wj) : Gw w wj gb A c G :=
  ⟨h.b.trans (hb.mono h.b.size), Kd.C_below h.C hb, (hb.block gb (blk_lt' h.g)).trans h.g⟩
theorem Gw.drewN {w wi : World} {gb : Nat} {A : Option Addr} {c : Nat} {G : List (List Int)} (h : Gw w wi gb A c G) (n : Nat) : Gw w (wi.drewN n) gb A c G :=
  h.step (pw_below_drewN (Below.refl _ _) _)
theorem Gw.drew {w wi : World} {gb : Nat} {A : Option Addr} {c : Nat} {G : List (List Int)} (h : Gw w wi gb A c G) : Gw w wi.drew gb A c G :=
  h.step (below_drew (Below.refl _ _))
theorem Gw.cell {w wi : World} {gb : Nat} {A : Option Addr} {c : Nat} {G : List (List Int)} (h : Gw w wi gb A c G) : wi.cell? ⟨gb, 0, none⟩ = some (.slice A G.length c) := cell_at h.g rfl
end Go.Proofs.Ytmlikgmcekofbaa
end

section
/- Plain facts for SccOrders and SccContracts. -/
set_option linter.unusedVariables false
set_option linter.unusedSimpArgs false
set_option linter.unusedSectionVars false
namespace Go.Proofs.Ytmlikgmcekofbaa
open Go.RowKit Go.Proofs.YtmlikgmcekofbaaW.PrintWords Go.Proofs.Ytmlikgmcekofbaa.PDigraphTells Mem

section
variable {G L : List (List Int)} {ix : List Int}
theorem nodes_nodup (G : List (List Int)) : (nodes G).Nodup := by
  unfold nodes List.Nodup
  rw [List.pairwise_map]
  exact List.nodup_range.imp (fun h e => h (by omega))
theorem IsC.part (hI : IsC G L) {z : Int} (hz : isNode G z) : ∃ k, ∃ h : k < L.length, z ∈ L[k] := by
  obtain ⟨part, hp, hz⟩ := List.mem_flatten.1 (hI.all _ hz)
  obtain ⟨p, hpl, rfl⟩ := List.getElem_of_mem hp
  exact ⟨p, hpl, hz⟩
/-- No edge leads to a later part. -/
theorem IsC.edge (hI : IsC G L) (hG : okG G) {x y : Int} (hx : isNode G x) (hy : y ∈ adj G x) {j k : Nat} (hj : j < L.length) (hk : k < L.length) (zx : x ∈ L[k]) (zy : y ∈ L[j]) : j ≤ k := by
  obtain ⟨r, r1, r2, r3, r4, r5⟩ := hI.st k hk
  have hrx := ((r5.mem x).1 zx).2
  have hyn := hG.adj hx hy
  rcases r3 y (hrx.1.trans (.one hy)) with h | h
  · have : y ∈ L[k] := (r5.mem y).2 ⟨hyn, hrx.1.trans (.one hy), h⟩
    exact Nat.le_of_eq (hI.inj hj hk this zy)
  · obtain ⟨part, hp, hz⟩ := List.mem_flatten.1 h
    obtain ⟨i, hi, rfl⟩ := List.mem_take_iff_getElem.1 hp
    have hi2 : i < L.length := by omega
    have := hI.inj hj hi2 hz zy
    omega
theorem IsC.nodup (hI : IsC G L) : L.flatten.Nodup := by
  unfold List.Nodup
  rw [List.pairwise_flatten]
  refine ⟨fun l hl => ?_, ?_⟩
  · obtain ⟨k, hk, rfl⟩ := List.getElem_of_mem hl
    obtain ⟨_, _, _, _, _, h⟩ := hI.st k hk
    exact h.srt.imp (fun h => by omega)
  · rw [List.pairwise_iff_getElem]
    intro i j hi hj hij a ha b hb e
    subst e
    exact hI.disj hij hj hb ha
theorem IsC.sum (hI : IsC G L) : (L.map List.length).sum = G.length := by
  rw [← List.length_flatten]
  refine Nat.le_antisymm ?_ ?_
  · have := Grf.Tj.nodup_len _ (nodes G) hI.nodup (fun x hx => by
      obtain ⟨l, hl, hx⟩ := List.mem_flatten.1 hx
      obtain ⟨k, hk, rfl⟩ := List.getElem_of_mem hl
      exact (mem_nodes G x).2 (hI.node hk hx))
    rwa [nodes_len] at this
  · have := Grf.Tj.nodup_len (nodes G) L.flatten (nodes_nodup G) (fun x hx => hI.all x ((mem_nodes G x).1 hx))
    rwa [nodes_len] at this
theorem IsC.srt (hI : IsC G L) {k : Nat} (hk : k < L.length) {i j : Nat} (hij : i < j) (hj : j < L[k].length) : L[k][i] < L[k][j] := by
  obtain ⟨_, _, _, _, _, h⟩ := hI.st k hk
  exact List.pairwise_iff_getElem.1 h.srt i j (by omega) hj hij
end
end Go.Proofs.Ytmlikgmcekofbaa
end

section
/- The reference's transitive closure, in plain lists. -/
set_option linter.unusedVariables false
set_option linter.unusedSimpArgs false
set_option linter.unusedSectionVars false
namespace Go.Proofs.Ytmlikgmcekofbaa
open Go.RowKit Go.Proofs.YtmlikgmcekofbaaW.PrintWords Go.Proofs.Ytmlikgmcekofbaa.PDigraphTells

/-- In the end it answers, and well. -/
def EvG {α : Type} (g : Nat → Option α) (Good : α → Prop) : Prop := ∃ r, Ev g r ∧ Good r
theorem EvG.suc {α : Type} {g h : Nat → Option α} {Good : α → Prop} (e : ∀ k, g (k + 1) = h k) (H : EvG h Good) : EvG g Good := by
  obtain ⟨r, h1, h2⟩ := H
  exact ⟨r, Ev.suc e h1, h2⟩
def wm (W : List (List Bool)) (i j : Nat) : Bool := (W.getD i []).getD j false
theorem wm_rd (W : List (List Bool)) (i j : Nat) : rdOf false (rd_L3 W (i : Int)) (j : Int) = wm W i j := rfl
structure Sqr (n : Nat) (W : List (List Bool)) : Prop where
  len : W.length = n
  row : ∀ i, i < n → (W.getD i []).length = n
theorem Sqr.rl {n : Nat} {W : List (List Bool)} (h : Sqr n W) {i : Nat} (hi : i < n) : (rd_L3 W (i : Int)).length = n := h.row i hi
theorem getD_set' {α : Type} (l : List α) (i a : Nat) (v d : α) (hi : i < l.length) : (l.set i v).getD a d = if a = i then v else l.getD a d := by
  rw [List.getD_eq_getElem?_getD, List.getElem?_set, List.getD_eq_getElem?_getD]
  by_cases h : a = i
  · subst h; simp [hi]
  · rw [if_neg (fun e => h e.symm), if_neg h]
theorem wm_set {n : Nat} {W : List (List Bool)} (h : Sqr n W) {i j : Nat} (hi : i < n) (hj : j < n) (a b : Nat) : wm (W.set i ((W.getD i []).set j true)) a b = if a = i ∧ b = j then true else wm W a b := by
  unfold wm
  rw [getD_set' _ _ _ _ _ (by rw [h.len]; exact hi)]
  by_cases e : a = i
  · subst e
    rw [if_pos rfl, getD_set' _ _ _ _ _ (by rw [h.row a hi]; exact hj)]
    simp
  · rw [if_neg e, if_neg (fun h => e h.1)]
theorem Sqr.set {n : Nat} {W : List (List Bool)} (h : Sqr n W) {i j : Nat} (hi : i < n) : Sqr n (W.set i ((W.getD i []).set j true)) := by
  refine ⟨by rw [List.length_set]; exact h.len, fun a ha => ?_⟩
  rw [getD_set' _ _ _ _ _ (by rw [h.len]; exact hi)]
  split
  · rw [List.length_set]; exact h.row i hi
  · exact h.row a ha
/-- The matrix W while stage k has come to row i, column j. -/
structure Mx (n : Nat) (W : List (List Bool)) (k i j : Nat) (M : List (List Bool)) : Prop where
  sq : Sqr n M
  at_ : ∀ a b, a < n → b < n → wm M a b = if a < i ∨ (a = i ∧ b < j) then (wm W a b || (wm W a k && wm W k b)) else wm W a b
section
variable {n k i j : Nat} {W M : List (List Bool)}
theorem Mx.ik (h : Mx n W k i 0 M) (hi : i < n) (hk : k < n) : wm M i k = wm W i k := by
  rw [h.at_ i k hi hk, if_neg (by omega)]
theorem Mx.kj (h : Mx n W k i j M) (hj : j < n) (hk : k < n) : wm M k j = wm W k j := by
  rw [h.at_ k j hk hj]
  split
  · cases wm W k j <;> cases wm W k k <;> rfl
  · rfl
theorem Mx.skip (h : Mx n W k i 0 M) (hi : i < n) (hik : wm W i k = false) : Mx n W k (i + 1) 0 M := by
  refine ⟨h.sq, fun a b ha hb => ?_⟩
  rw [h.at_ a b ha hb]
  by_cases e : a = i
  · subst e
    rw [if_neg (by omega), if_pos (by omega), hik]
    simp
  · by_cases e2 : a < i
    · rw [if_pos (by omega), if_pos (by omega)]
    · rw [if_neg (by omega), if_neg (by omega)]
theorem Mx.row (h : Mx n W k i n M) : Mx n W k (i + 1) 0 M := by
  refine ⟨h.sq, fun a b ha hb => ?_⟩
  rw [h.at_ a b ha hb]
  by_cases e : a < i + 1
  · rw [if_pos (by omega), if_pos (by omega)]
  · rw [if_neg (by omega), if_neg (by omega)]
theorem Mx.put (h : Mx n W k i j M) (hi : i < n) (hj : j < n) (hik : wm W i k = true) (hkj : wm W k j = true) : Mx n W k i (j + 1) (M.set i ((M.getD i []).set j true)) := by
  refine ⟨h.sq.set hi, fun a b ha hb => ?_⟩
  rw [wm_set h.sq hi hj]
  by_cases e : a = i ∧ b = j
  · obtain ⟨rfl, rfl⟩ := e
    rw [if_pos ⟨rfl, rfl⟩, if_pos (by omega), hik, hkj]
    simp
  · rw [if_neg e, h.at_ a b ha hb]
    by_cases e2 : a < i ∨ (a = i ∧ b < j)
    · rw [if_pos e2, if_pos (by omega)]
    · rw [if_neg e2, if_neg (by omega)]
theorem Mx.next (h : Mx n W k i j M) (hkj : wm W k j = false) : Mx n W k i (j + 1) M := by
  refine ⟨h.sq, fun a b ha hb => ?_⟩
  rw [h.at_ a b ha hb]
  by_cases e : a = i ∧ b = j
  · obtain ⟨rfl, rfl⟩ := e
    rw [if_neg (by omega), if_pos (by omega), hkj]
    simp
  · by_cases e2 : a < i ∨ (a = i ∧ b < j)
    · rw [if_pos e2, if_pos (by omega)]
    · rw [if_neg e2, if_neg (by omega)]
end
section
variable {n k : Nat} {W : List (List Bool)} {Good : List (List Bool) → Prop} (hn : n ≤ 65536)
include hn
theorem pt_l4 {i : Nat} (hk : k < n) (hi : i < n) (hik : wm W i k = true) (hK : ∀ M, Mx n W k (i + 1) 0 M → EvG (fun q => burnishref07_Paths.l3 q (n : Int) M (k : Int) ((i + 1 : Nat) : Int)) Good) :
    ∀ d j M, j + d = n → Mx n W k i j M → EvG (fun q => burnishref07_Paths.l4 q (n : Int) M (k : Int) (i : Int) (j : Int)) Good := by
  intro d
  induction d with
  | zero =>
    intro j M hj h
    obtain rfl : j = n := by omega
    refine EvG.suc (fun q => ?_) (hK M h.row)
    simp only [burnishref07_Paths.l4]
    rw [if_neg (by omega), w64 i _ hi (by omega)]
  | succ d ih =>
    intro j M hj h
    have hjn : j < n := by omega
    have hl := h.sq.len
    have hkr := h.sq.rl hk
    have hir := h.sq.rl hi
    have hmk := h.kj hjn hk
    cases hkj : wm W k j with
    | true =>
      refine EvG.suc (fun q => ?_) (ih (j + 1) _ (by omega) (h.put hi hjn hik hkj))
      simp only [burnishref07_Paths.l4]
      rw [if_pos (by omega), if_pos (by omega), if_pos (by omega), if_pos (by omega), if_pos (by omega), if_pos (by rw [wm_rd, hmk, hkj]), if_pos (by omega), if_pos (by omega), if_pos (by omega), w64 j n hjn (by omega)]
      rfl
    | false =>
      refine EvG.suc (fun q => ?_) (ih (j + 1) _ (by omega) (h.next hkj))
      simp only [burnishref07_Paths.l4]
      rw [if_pos (by omega), if_pos (by omega), if_pos (by omega), if_pos (by omega), if_pos (by omega), if_neg (by rw [wm_rd, hmk, hkj]; simp), w64 j n hjn (by omega)]
theorem pt_l3 (hk : k < n) (hK : ∀ M, Mx n W k n 0 M → EvG (fun q => burnishref07_Paths.l2 q (n : Int) M ((k + 1 : Nat) : Int)) Good) :
    ∀ d i M, i + d = n → Mx n W k i 0 M → EvG (fun q => burnishref07_Paths.l3 q (n : Int) M (k : Int) (i : Int)) Good := by
  intro d
  induction d with
  | zero =>
    intro i M hi h
    obtain rfl : i = n := by omega
    refine EvG.suc (fun q => ?_) (hK M h)
    simp only [burnishref07_Paths.l3]
    rw [if_neg (by omega), w64 k _ hk (by omega)]
  | succ d ih =>
    intro i M hi h
    have hin : i < n := by omega
    have hl := h.sq.len
    have hir := h.sq.rl hin
    have hmk := h.ik hin hk
    cases hik : wm W i k with
    | true =>
      refine EvG.suc (fun q => ?_) (pt_l4 hn hk hin hik (fun M' h' => ih (i + 1) M' (by omega) h') n 0 M (by omega) h)
      simp only [burnishref07_Paths.l3]
      rw [if_pos (by omega), if_pos (by omega), if_pos (by omega), if_pos (by omega), if_pos (by omega), if_pos (by rw [wm_rd, hmk, hik])]
      rfl
    | false =>
      refine EvG.suc (fun q => ?_) (ih (i + 1) M (by omega) (h.skip hin hik))
      simp only [burnishref07_Paths.l3]
      rw [if_pos (by omega), if_pos (by omega), if_pos (by omega), if_pos (by omega), if_pos (by omega), if_neg (by rw [wm_rd, hmk, hik]; simp), w64 i n hin (by omega)]
end
/-- A path of at least one edge. -/
def Pth (G : List (List Int)) (x y : Int) : Prop := ∃ k, k ∈ adj (cleanG G) x ∧ Grf.Reach (adj (cleanG G)) k y
theorem Pth.trans {G : List (List Int)} {x y z : Int} (h : Pth G x y) (h2 : Pth G y z) : Pth G x z := by
  obtain ⟨k, k1, k2⟩ := h
  obtain ⟨m, m1, m2⟩ := h2
  exact ⟨k, k1, k2.trans (m2.head m1)⟩
/-- The closure before stage k. -/
structure Wk (G : List (List Int)) (k : Nat) (W : List (List Bool)) : Prop where
  sq : Sqr G.length W
  snd : ∀ a b, a < G.length → b < G.length → wm W a b = true → Pth G a b
  base : ∀ a b, a < G.length → b < G.length → (b : Int) ∈ adj (cleanG G) a → wm W a b = true
  clo : ∀ m a b, m < k → m < G.length → a < G.length → b < G.length → wm W a m = true → wm W m b = true → wm W a b = true
theorem Wk.start {G : List (List Int)} {k : Nat} {W : List (List Bool)} (h : Wk G k W) : Mx G.length W k 0 0 W := ⟨h.sq, fun a b _ _ => by rw [if_neg (by omega)]⟩
theorem Wk.step {G : List (List Int)} {k : Nat} {W M : List (List Bool)} (h : Wk G k W) (hk : k < G.length) (hM : Mx G.length W k G.length 0 M) : Wk G (k + 1) M := by
  have key : ∀ a b, a < G.length → b < G.length → (wm M a b = true ↔ wm W a b = true ∨ (wm W a k = true ∧ wm W k b = true)) := fun a b ha hb => by
    rw [hM.at_ a b ha hb, if_pos (.inl ha)]
    simp
  refine ⟨hM.sq, fun a b ha hb hw => ?_, fun a b ha hb he => (key a b ha hb).2 (.inl (h.base a b ha hb he)), fun m a b hmk hm ha hb h1 h2 => ?_⟩
  · rcases (key a b ha hb).1 hw with hw | ⟨h1, h2⟩
    · exact h.snd a b ha hb hw
    · exact (h.snd a k ha hk h1).trans (h.snd k b hk hb h2)
  · rw [key a b ha hb]
    rw [key a m ha hm] at h1
    rw [key m b hm hb] at h2
    by_cases e : m = k
    · subst e
      have h1 : wm W a m = true := h1.elim id (fun h => h.1)
      have h2 : wm W m b = true := h2.elim id (fun h => h.2)
      exact .inr ⟨h1, h2⟩
    · have hc := fun a b => h.clo m a b (by omega) hm
      rcases h1 with h1 | ⟨h1, h1'⟩
      · rcases h2 with h2 | ⟨h2, h2'⟩
        · exact .inl (hc a b ha hb h1 h2)
        · exact .inr ⟨hc a k ha hk h1 h2, h2'⟩
      · rcases h2 with h2 | ⟨h2, h2'⟩
        · exact .inr ⟨h1, hc k b hk hb h1' h2⟩
        · exact .inr ⟨h1, h2'⟩
theorem pt_l2 {G : List (List Int)} (hn : G.length ≤ 65536) : ∀ d k W, k + d = G.length → Wk G k W → EvG (fun q => burnishref07_Paths.l2 q (G.length : Int) W (k : Int)) (Wk G G.length) := by
  intro d
  induction d with
  | zero =>
    intro k W hk h
    obtain rfl : k = G.length := by omega
    refine ⟨W, Ev.now fun q => ?_, h⟩
    rw [burnishref07_Paths.l2, if_neg (by omega)]
  | succ d ih =>
    intro k W hk h
    have hkn : k < G.length := by omega
    refine EvG.suc (fun q => ?_) (pt_l3 hn hkn (fun M hM => ih (k + 1) M (by omega) (h.step hkn hM)) G.length 0 W (by omega) h.start)
    simp only [burnishref07_Paths.l2]
    rw [if_pos (by omega)]
    rfl
/-- The first matrix, i rows of it. -/
structure W0 (G : List (List Int)) (i : Nat) (W : List (List Bool)) : Prop where
  len : W.length = i
  row : ∀ a, a < i → (W.getD a []).length = G.length
  at_ : ∀ a b, a < i → b < G.length → (wm W a b = true ↔ (b : Int) ∈ adj G (a : Int))
theorem W0.wk {G : List (List Int)} {W : List (List Bool)} (h : W0 G G.length W) : Wk G 0 W := by
  refine ⟨⟨h.len, h.row⟩, fun a b ha hb hw => ?_, fun a b ha hb he => ?_, fun m a b hm => by omega⟩
  · exact ⟨b, (mem_clean ⟨by omega, by omega⟩).2 ⟨(h.at_ a b ha hb).1 hw, ⟨by omega, by omega⟩⟩, .refl _⟩
  · exact (h.at_ a b ha hb).2 ((mem_clean ⟨by omega, by omega⟩).1 he).1
/-- A row under way. -/
structure RW (n : Nat) (row : List Int) (j : Nat) (x : List Bool) : Prop where
  len : x.length = n
  at_ : ∀ b, b < n → (x.getD b false = true ↔ (b : Int) ∈ row.take j)
theorem RW.put {n : Nat} {row : List Int} {j : Nat} {x : List Bool} (h : RW n row j x) (hj : j < row.length) (h0 : 0 ≤ row[j]) (h1 : row[j] < n) : RW n row (j + 1) (x.set (row[j]).toNat true) := by
  refine ⟨by rw [List.length_set]; exact h.len, fun b hb => ?_⟩
  rw [getD_set' _ _ _ _ _ (by rw [h.len]; omega), List.take_succ_eq_append_getElem hj, List.mem_append, List.mem_singleton, ← h.at_ b hb]
  split
  · simp; right; omega
  · rename_i e
    constructor
    · exact .inl
    · rintro (h | h)
      · exact h
      · exact absurd (by omega) e
theorem RW.skip {n : Nat} {row : List Int} {j : Nat} {x : List Bool} (h : RW n row j x) (hj : j < row.length) (hno : ¬ (0 ≤ row[j] ∧ row[j] < n)) : RW n row (j + 1) x := by
  refine ⟨h.len, fun b hb => ?_⟩
  rw [List.take_succ_eq_append_getElem hj, List.mem_append, List.mem_singleton, ← h.at_ b hb]
  constructor
  · exact .inl
  · rintro (h | h)
    · exact h
    · exact absurd ⟨by omega, by omega⟩ hno
theorem getD_snoc {α : Type} (l : List α) (v d : α) (a : Nat) : (l ++ [v]).getD a d = if a = l.length then v else l.getD a d := by
  rw [List.getD_eq_getElem?_getD, List.getD_eq_getElem?_getD]
  by_cases h : a < l.length
  · rw [List.getElem?_append_left h, if_neg (by omega)]
  · rw [List.getElem?_append_right (by omega)]
    by_cases e : a = l.length
    · subst e; simp
    · rw [if_neg e, List.getElem?_eq_none (by simp; omega), List.getElem?_eq_none (by omega)]
theorem W0.snoc {G : List (List Int)} {i : Nat} {W : List (List Bool)} {x : List Bool} (h : W0 G i W) (hi : i < G.length) (hx : RW G.length G[i] G[i].length x) : W0 G (i + 1) (W ++ [x]) := by
  have hl := h.len
  have ha : adj G (i : Int) = G[i] := adj_nat G i hi
  refine ⟨by simp [hl], fun a ha => ?_, fun a b hai hb => ?_⟩
  · rw [getD_snoc, hl]
    split
    · exact hx.len
    · exact h.row a (by omega)
  · unfold wm
    rw [getD_snoc, hl]
    split
    · rename_i e
      subst e
      rw [hx.at_ b hb, List.take_length, ha]
    · exact h.at_ a b (by omega) hb
theorem pt_l1 {G : List (List Int)} (hn : G.length ≤ 65536) (hs : short G) {i : Nat} (hi : i < G.length) {W : List (List Bool)} (hW : W0 G i W) {Good : List (List Bool) → Prop}
    (hK : ∀ W, W0 G (i + 1) W → EvG (fun q => burnishref07_Paths.l0 q (G.length : Int) W ((i + 1 : Nat) : Int) G) Good) :
    ∀ d j x, j + d = G[i].length → RW G.length G[i] j x → EvG (fun q => burnishref07_Paths.l1 q (G.length : Int) W (i : Int) x G[i] (G[i].length : Int) (j : Int) G) Good := by
  have hr := hs.2 _ (List.getElem_mem hi)
  intro d
  induction d with
  | zero =>
    intro j x hj h
    obtain rfl : j = G[i].length := by omega
    refine EvG.suc (fun q => ?_) (hK _ (hW.snoc hi h))
    simp only [burnishref07_Paths.l1]
    have := hW.len
    rw [if_neg (by omega), if_pos (by omega), w64 i _ hi (by omega)]
  | succ d ih =>
    intro j x hj h
    have hjn : j < G[i].length := by omega
    by_cases hno : 0 ≤ G[i][j] ∧ G[i][j] < G.length
    · refine EvG.suc (fun q => ?_) (ih (j + 1) _ (by omega) (h.put hjn hno.1 hno.2))
      simp only [burnishref07_Paths.l1]
      have := h.len
      rw [if_pos (by omega), if_pos (by omega), if_pos (by omega), rd_get _ j hjn, if_pos hno.1, if_pos hno.2, if_pos hno.1, if_pos (by omega), w64 j _ hjn hr]
    · refine EvG.suc (fun q => ?_) (ih (j + 1) _ (by omega) (h.skip hjn hno))
      simp only [burnishref07_Paths.l1]
      rw [if_pos (by omega), if_pos (by omega), if_pos (by omega), rd_get _ j hjn, w64 j _ hjn hr]
      by_cases h0 : G[i][j] ≥ 0
      · rw [if_pos h0, if_neg (fun h1 => hno ⟨h0, h1⟩)]
      · rw [if_neg h0]
theorem pt_l0 {G : List (List Int)} (hn : G.length ≤ 65536) (hs : short G) : ∀ d i W, i + d = G.length → W0 G i W → EvG (fun q => burnishref07_Paths.l0 q (G.length : Int) W (i : Int) G) (Wk G G.length) := by
  intro d
  induction d with
  | zero =>
    intro i W hi h
    obtain rfl : i = G.length := by omega
    refine EvG.suc (fun q => ?_) (pt_l2 hn G.length 0 W (by omega) h.wk)
    simp only [burnishref07_Paths.l0]
    rw [if_neg (by omega)]
    rfl
  | succ d ih =>
    intro i W hi h
    have hin : i < G.length := by omega
    refine EvG.suc (fun q => ?_) (pt_l1 hn hs hin h (fun W' h' => ih (i + 1) W' (by omega) h') G[i].length 0 (List.replicate G.length false) (by omega) ⟨by simp, fun b hb => by simp [hb]⟩)
    simp only [burnishref07_Paths.l0]
    rw [if_pos (by omega), if_pos (by omega), if_pos (by omega), if_pos (by omega), if_pos (by omega), rd1_get G i hin, Int.toNat_natCast]
    rfl
/-- The reference's matrix. -/
structure PM (G : List (List Int)) (W : List (List Bool)) : Prop where
  sq : Sqr G.length W
  at_ : ∀ a b, a < G.length → b < G.length → (wm W a b = true ↔ Pth G a b)
theorem Wk.pm {G : List (List Int)} {W : List (List Bool)} (hn : G.length ≤ 65536) (h : Wk G G.length W) : PM G W := by
  refine ⟨h.sq, fun a b ha hb => ⟨h.snd a b ha hb, ?_⟩⟩
  rintro ⟨k, k1, k2⟩
  have hok := clean_ok (G := G) hn
  have hkn : isNode (cleanG G) k := hok.adj (isNode_clean.2 ⟨by omega, by omega⟩) k1
  have key : ∀ y, Grf.Reach (adj (cleanG G)) k y → isNode (cleanG G) y ∧ wm W a y.toNat = true := by
    intro y hy
    induction hy with
    | refl =>
      have e : k = ((k.toNat : Nat) : Int) := (Int.toNat_of_nonneg hkn.1).symm
      have hl := hkn.2
      rw [cleanG_len] at hl
      exact ⟨hkn, h.base a k.toNat ha (by omega) (by rw [← e]; exact k1)⟩
    | tail _ e ih =>
      rename_i c y _
      obtain ⟨hc, hw⟩ := ih
      have hyn := hok.adj hc e
      have hcl := hc.2
      have hyl := hyn.2
      rw [cleanG_len] at hcl hyl
      have ec : c = ((c.toNat : Nat) : Int) := (Int.toNat_of_nonneg hc.1).symm
      have ey : y = ((y.toNat : Nat) : Int) := (Int.toNat_of_nonneg hyn.1).symm
      have hc0 := hc.1
      have hy0 := hyn.1
      exact ⟨hyn, h.clo c.toNat a y.toNat (by omega) (by omega) ha (by omega) hw (h.base c.toNat y.toNat (by omega) (by omega) (by rw [← ec, ← ey]; exact e))⟩
  have := (key b k2).2
  rwa [Int.toNat_natCast] at this
theorem paths_f {G : List (List Int)} (hn : G.length ≤ 65536) (hs : short G) : EvG (fun q => burnishref07_Paths.f q G) (PM G) := by
  obtain ⟨r, h1, h2⟩ := pt_l0 hn hs G.length 0 [] (by omega) ⟨rfl, fun a ha => by omega, fun a b ha => by omega⟩
  exact ⟨r, h1, h2.pm hn⟩
end Go.Proofs.Ytmlikgmcekofbaa
end

section
/- The reference's OnCycle. -/
set_option linter.unusedVariables false
set_option linter.unusedSimpArgs false
set_option linter.unusedSectionVars false
namespace Go.Proofs.Ytmlikgmcekofbaa
open Go.RowKit Go.Proofs.YtmlikgmcekofbaaW.PrintWords Go.Proofs.Ytmlikgmcekofbaa.PDigraphTells

theorem reach_head {ad : Int → List Int} {a b : Int} (h : Grf.Reach ad a b) : a = b ∨ ∃ c, c ∈ ad a ∧ Grf.Reach ad c b := by
  induction h with
  | refl => exact .inl rfl
  | tail _ e ih =>
    rename_i c y _
    rcases ih with rfl | ⟨d, h1, h2⟩
    · exact .inr ⟨y, e, .refl _⟩
    · exact .inr ⟨d, h1, h2.tail e⟩
end Go.Proofs.Ytmlikgmcekofbaa
end

section
/- The reference's component and ready, in plain lists. -/
set_option linter.unusedVariables false
set_option linter.unusedSimpArgs false
set_option linter.unusedSectionVars false
namespace Go.Proofs.Ytmlikgmcekofbaa
open Go.RowKit Go.Proofs.YtmlikgmcekofbaaW.PrintWords Go.Proofs.Ytmlikgmcekofbaa.PDigraphTells

def inC (W : List (List Bool)) (i a : Nat) : Bool := decide (a = i) || (wm W i a && wm W a i)
def compL (W : List (List Bool)) (n i : Nat) : List Int := ((List.range n).filter (inC W i)).map fun (a : Nat) => (a : Int)
theorem co_l0 {n : Nat} (hn : n ≤ 65536) {W : List (List Bool)} (h : Sqr n W) {i : Nat} (hi : i < n) : ∀ d a o, a + d = n → o.length ≤ a → Ev (fun q => burnishref07_component.l0 q W (i : Int) o (a : Int)) (o ++ ((List.range' a d).filter (inC W i)).map fun (a : Nat) => (a : Int)) := by
  have hl := h.len
  intro d
  induction d with
  | zero =>
    intro a o ha ho
    rw [List.range'_zero, List.filter_nil, List.map_nil, List.append_nil]
    refine Ev.now fun q => ?_
    rw [burnishref07_component.l0, if_neg (by omega)]
  | succ d ih =>
    intro a o ha ho
    have han : a < n := by omega
    have hr := h.rl han
    have hri := h.rl hi
    rw [List.range'_succ]
    by_cases hp : inC W i a = true
    · have h9 := ih (a + 1) (o ++ [(a : Int)]) (by omega) (by simp; omega)
      rw [List.append_assoc] at h9
      rw [List.filter_cons_of_pos hp, List.map_cons]
      refine Ev.suc (fun q => ?_) h9
      show burnishref07_component.l0 (q + 1) _ _ _ _ = _
      rw [burnishref07_component.l0, if_pos (by omega), w64 a n han (by omega)]
      by_cases e : a = i
      · rw [if_pos (by omega), if_pos (by omega)]
      · unfold inC at hp
        rw [decide_eq_false e, Bool.false_or, Bool.and_eq_true] at hp
        rw [if_neg (by omega), if_pos (by omega), if_pos (by omega), if_pos (by omega), if_pos (by omega), wm_rd, if_pos hp.1, if_pos (by omega), wm_rd, if_pos hp.2, if_pos (by omega)]
    · have h9 := ih (a + 1) o (by omega) (by omega)
      rw [List.filter_cons_of_neg hp]
      refine Ev.suc (fun q => ?_) h9
      show burnishref07_component.l0 (q + 1) _ _ _ _ = _
      have e : a ≠ i := fun e => hp (by unfold inC; simp [e])
      rw [burnishref07_component.l0, if_pos (by omega), w64 a n han (by omega), if_neg (by omega), if_pos (by omega), if_pos (by omega), if_pos (by omega), if_pos (by omega), wm_rd]
      by_cases h1 : wm W i a = true
      · have h2 : ¬ wm W a i = true := fun h2 => hp (by unfold inC; simp [h1, h2])
        rw [if_pos h1, if_pos (by omega), wm_rd, if_neg h2]
      · rw [if_neg h1]
theorem comp_f {n : Nat} (hn : n ≤ 65536) {W : List (List Bool)} (h : Sqr n W) {i : Nat} (hi : i < n) : Ev (fun q => burnishref07_component.f q W (i : Int)) (compL W n i) := by
  have := co_l0 hn h hi n 0 [] (by omega) (by simp)
  rw [List.nil_append, ← List.range_eq_range'] at this
  exact this
theorem Pth.reach {G : List (List Int)} {x y : Int} (h : Pth G x y) : Grf.Reach (adj (cleanG G)) x y := by
  obtain ⟨k, k1, k2⟩ := h
  exact k2.head k1
theorem reach_pth {G : List (List Int)} {x y : Int} (h : Grf.Reach (adj (cleanG G)) x y) : x = y ∨ Pth G x y := reach_head h
theorem comp_mem {W : List (List Bool)} {n i : Nat} {z : Int} : z ∈ compL W n i ↔ ∃ a, a < n ∧ z = (a : Int) ∧ inC W i a = true := by
  unfold compL
  rw [List.mem_map]
  constructor
  · rintro ⟨a, ha, rfl⟩
    have := List.mem_filter.1 ha
    exact ⟨a, List.mem_range.1 this.1, rfl, this.2⟩
  · rintro ⟨a, ha, rfl, hc⟩
    exact ⟨a, List.mem_filter.2 ⟨List.mem_range.2 ha, hc⟩, rfl⟩
theorem comp_part {G : List (List Int)} {W : List (List Bool)} (h : PM G W) {i : Nat} (hi : i < G.length) : PartOf (cleanG G) (i : Int) (compL W G.length i) := by
  refine ⟨?_, fun z => ?_⟩
  · unfold compL
    rw [List.pairwise_map]
    exact (List.pairwise_lt_range.filter _).imp (fun h => by omega)
  · rw [comp_mem]
    constructor
    · rintro ⟨a, ha, rfl, hc⟩
      refine ⟨isNode_clean.2 ⟨by omega, by omega⟩, ?_⟩
      unfold inC at hc
      rw [Bool.or_eq_true, decide_eq_true_iff, Bool.and_eq_true] at hc
      rcases hc with rfl | ⟨h1, h2⟩
      · exact ⟨.refl _, .refl _⟩
      · exact ⟨((h.at_ i a hi ha).1 h1).reach, ((h.at_ a i ha hi).1 h2).reach⟩
    · rintro ⟨hz, h1, h2⟩
      have hz0 := hz.1
      have hz1 := hz.2
      rw [cleanG_len] at hz1
      have ez : z = ((z.toNat : Nat) : Int) := (Int.toNat_of_nonneg hz0).symm
      refine ⟨z.toNat, by omega, ez, ?_⟩
      unfold inC
      rw [Bool.or_eq_true, decide_eq_true_iff, Bool.and_eq_true]
      rw [ez] at h1 h2
      rcases reach_pth h1 with e | p1
      · exact .inl (by omega)
      · rcases reach_pth h2 with e | p2
        · exact .inl (by omega)
        · exact .inr ⟨(h.at_ _ _ hi (by omega)).2 p1, (h.at_ _ _ (by omega) hi).2 p2⟩
theorem comp_len (W : List (List Bool)) (n i : Nat) : (compL W n i).length ≤ n := by
  unfold compL
  rw [List.length_map]
  exact Nat.le_trans (List.length_filter_le _ _) (by simp)
/-- All that a leads to is in part or done. -/
def OKx (W : List (List Bool)) (n : Nat) (part : List Int) (dn : List Bool) (a : Nat) : Prop := ∀ k, k < n → wm W a k = true → (k : Int) ∈ part ∨ dn.getD k false = true
section
variable {n : Nat} {W : List (List Bool)} {part : List Int} {dn x7 : List Bool}
def GoodR (W : List (List Bool)) (n : Nat) (part : List Int) (dn : List Bool) (r : Bool) : Prop := r = true ↔ ∀ x ∈ part, OKx W n part dn x.toNat
theorem rf_l2 (hn : n ≤ 65536) (h : Sqr n W) (hp : ∀ x ∈ part, 0 ≤ x ∧ x < n) (hpl : part.length ≤ n) (hd : dn.length = n) (hx : RW n part part.length x7) {t : Nat} (ht : t < part.length)
    (hK : OKx W n part dn (part[t]).toNat → EvG (fun q => burnishref07_ready.l1 q W dn x7 part (part.length : Int) ((t + 1 : Nat) : Int)) (GoodR W n part dn)) :
    ∀ d b, b + d = n → (∀ k, k < b → wm W (part[t]).toNat k = true → (k : Int) ∈ part ∨ dn.getD k false = true) →
      EvG (fun q => burnishref07_ready.l2 q W dn x7 part[t] (b : Int) part (part.length : Int) (t : Int)) (GoodR W n part dn) := by
  have hl := h.len
  have hxl := hx.len
  obtain ⟨h0, h1⟩ := hp part[t] (List.getElem_mem ht)
  obtain ⟨a, ha⟩ : ∃ a : Nat, part[t] = (a : Int) := ⟨(part[t]).toNat, (Int.toNat_of_nonneg h0).symm⟩
  have hmem : (a : Int) ∈ part := by rw [← ha]; exact List.getElem_mem ht
  rw [ha] at hK h0 h1 ⊢
  rw [Int.toNat_natCast] at hK ⊢
  have han : a < n := by omega
  have har := h.rl han
  intro d
  induction d with
  | zero =>
    intro b hb hk
    obtain rfl : b = n := by omega
    refine EvG.suc (fun q => ?_) (hK (fun k hk1 hw => hk k hk1 hw))
    simp only [burnishref07_ready.l2]
    rw [if_neg (by omega), w64 t _ ht (by omega)]
  | succ d ih =>
    intro b hb hk
    have hbn : b < n := by omega
    have hx9 := hx.at_ b hbn
    rw [List.take_length] at hx9
    by_cases hw : wm W a b = true
    · by_cases hin : x7.getD b false = true
      · refine EvG.suc (fun q => ?_) (ih (b + 1) (by omega) (fun k hk1 hw1 => ?_))
        · simp only [burnishref07_ready.l2]
          rw [if_pos (by omega), if_pos (by omega), if_pos (by omega), if_pos (by omega), if_pos (by omega), wm_rd, if_pos hw, if_pos (by omega), if_pos (show rdOf false x7 (b : Int) = true from hin), w64 b n hbn (by omega)]
        · by_cases e : k = b
          · subst e; exact .inl (hx9.1 hin)
          · exact hk k (by omega) hw1
      · by_cases hdn : dn.getD b false = true
        · refine EvG.suc (fun q => ?_) (ih (b + 1) (by omega) (fun k hk1 hw1 => ?_))
          · simp only [burnishref07_ready.l2]
            rw [if_pos (by omega), if_pos (by omega), if_pos (by omega), if_pos (by omega), if_pos (by omega), wm_rd, if_pos hw, if_pos (by omega), if_neg (show ¬ rdOf false x7 (b : Int) = true from hin), if_pos (by omega), if_pos (show rdOf false dn (b : Int) = true from hdn), w64 b n hbn (by omega)]
          · by_cases e : k = b
            · subst e; exact .inr hdn
            · exact hk k (by omega) hw1
        · refine ⟨false, Ev.now fun q => ?_, ?_⟩
          · rw [burnishref07_ready.l2, if_pos (by omega), if_pos (by omega), if_pos (by omega), if_pos (by omega), if_pos (by omega), wm_rd, if_pos hw, if_pos (by omega), if_neg (show ¬ rdOf false x7 (b : Int) = true from hin), if_pos (by omega), if_neg (show ¬ rdOf false dn (b : Int) = true from hdn)]
          · unfold GoodR
            constructor
            · intro e; cases e
            · intro hall
              rcases hall (a : Int) hmem b hbn (by rw [Int.toNat_natCast]; exact hw) with e | e
              · exact absurd (hx9.2 e) hin
              · exact absurd e hdn
    · refine EvG.suc (fun q => ?_) (ih (b + 1) (by omega) (fun k hk1 hw1 => ?_))
      · simp only [burnishref07_ready.l2]
        rw [if_pos (by omega), if_pos (by omega), if_pos (by omega), if_pos (by omega), if_pos (by omega), wm_rd, if_neg hw, w64 b n hbn (by omega)]
      · by_cases e : k = b
        · subst e; exact absurd hw1 hw
        · exact hk k (by omega) hw1
theorem rf_l1 (hn : n ≤ 65536) (h : Sqr n W) (hp : ∀ x ∈ part, 0 ≤ x ∧ x < n) (hpl : part.length ≤ n) (hd : dn.length = n) (hx : RW n part part.length x7) :
    ∀ d t, t + d = part.length → (∀ x ∈ part.take t, OKx W n part dn x.toNat) → EvG (fun q => burnishref07_ready.l1 q W dn x7 part (part.length : Int) (t : Int)) (GoodR W n part dn) := by
  intro d
  induction d with
  | zero =>
    intro t ht hk
    obtain rfl : t = part.length := by omega
    rw [List.take_length] at hk
    refine ⟨true, Ev.now fun q => ?_, fun _ => hk, fun _ => rfl⟩
    rw [burnishref07_ready.l1, if_neg (by omega)]
  | succ d ih =>
    intro t ht hk
    have htl : t < part.length := by omega
    refine EvG.suc (fun q => ?_) (rf_l2 hn h hp hpl hd hx htl (fun hok => ih (t + 1) (by omega) (fun x hx => ?_)) n 0 (by omega) (fun k hk => by omega))
    · simp only [burnishref07_ready.l1]
      rw [if_pos (by omega), if_pos (by omega), if_pos (by omega), rd_get part t htl]
      rfl
    · rw [List.take_succ_eq_append_getElem htl, List.mem_append, List.mem_singleton] at hx
      rcases hx with hx | rfl
      · exact hk x hx
      · exact hok
theorem rf_l0 (hn : n ≤ 65536) (h : Sqr n W) (hp : ∀ x ∈ part, 0 ≤ x ∧ x < n) (hpl : part.length ≤ n) (hd : dn.length = n) :
    ∀ d t x7, t + d = part.length → RW n part t x7 → EvG (fun q => burnishref07_ready.l0 q W part dn x7 part (part.length : Int) (t : Int)) (GoodR W n part dn) := by
  intro d
  induction d with
  | zero =>
    intro t x7 ht hx
    obtain rfl : t = part.length := by omega
    refine EvG.suc (fun q => ?_) (rf_l1 hn h hp hpl hd hx part.length 0 (by omega) (by simp))
    simp only [burnishref07_ready.l0]
    rw [if_neg (by omega)]
    rfl
  | succ d ih =>
    intro t x7 ht hx
    have htl : t < part.length := by omega
    obtain ⟨h0, h1⟩ := hp part[t] (List.getElem_mem htl)
    have hxl := hx.len
    refine EvG.suc (fun q => ?_) (ih (t + 1) _ (by omega) (hx.put htl h0 h1))
    simp only [burnishref07_ready.l0]
    rw [if_pos (by omega), if_pos (by omega), if_pos (by omega), rd_get part t htl, if_pos h0, if_pos (by omega), w64 t _ htl (by omega)]
theorem ready_f (hn : n ≤ 65536) (h : Sqr n W) (hp : ∀ x ∈ part, 0 ≤ x ∧ x < n) (hpl : part.length ≤ n) (hd : dn.length = n) : EvG (fun q => burnishref07_ready.f q W part dn) (GoodR W n part dn) := by
  obtain ⟨r, h1, h2⟩ := rf_l0 hn h hp hpl hd part.length 0 (List.replicate n false) (by omega) ⟨by simp, fun b hb => by simp [hb]⟩
  have hl := h.len
  refine ⟨r, Ev.of (fun q => ?_) h1, h2⟩
  unfold burnishref07_ready.f
  rw [if_pos (by omega), if_pos (by omega), Int.toNat_natCast, hl]
  rfl
end
/-- Which nodes are done. -/
structure DL (n : Nat) (D : List Int) (dn : List Bool) : Prop where
  len : dn.length = n
  at_ : ∀ k, k < n → (dn.getD k false = true ↔ (k : Int) ∈ D)
theorem DL.put {n : Nat} {D part : List Int} {dn : List Bool} {j : Nat} (h : DL n (D ++ part.take j) dn) (hj : j < part.length) (h0 : 0 ≤ part[j]) (h1 : part[j] < n) : DL n (D ++ part.take (j + 1)) (dn.set (part[j]).toNat true) := by
  refine ⟨by rw [List.length_set]; exact h.len, fun b hb => ?_⟩
  rw [getD_set' _ _ _ _ _ (by rw [h.len]; omega), List.take_succ_eq_append_getElem hj, ← List.append_assoc, List.mem_append (s := D ++ part.take j), List.mem_singleton, ← h.at_ b hb]
  split
  · simp; right; omega
  · rename_i e
    constructor
    · exact .inl
    · rintro (h | h)
      · exact h
      · exact absurd (by omega) e
/-- The answer of ready. -/
theorem good_rdy {G : List (List Int)} {W : List (List Bool)} (hn : G.length ≤ 65536) (h : PM G W) {i : Nat} (hi : i < G.length) {D : List Int} {dn : List Bool} (hd : DL G.length D dn) {r : Bool} (hr : GoodR W G.length (compL W G.length i) dn r) : r = true ↔ Rdy (cleanG G) D (i : Int) := by
  have hp := comp_part h hi
  have hok := clean_ok (G := G) hn
  have hin := isNode_clean.2 (show isNode G (i : Int) from ⟨by omega, by omega⟩)
  have key : ∀ {x y : Int}, isNode (cleanG G) x → Grf.Reach (adj (cleanG G)) x y → isNode (cleanG G) y := fun hx hr => by
    induction hr with
    | refl => exact hx
    | tail _ e ih => exact hok.adj ih e
  unfold GoodR at hr
  rw [hr]
  constructor
  · intro hall y hy
    have hyn := key hin hy
    rcases reach_pth hy with e | hpy
    · left; rw [← e]; exact .refl _
    · have hy0 := hyn.1
      have hy1 := hyn.2
      rw [cleanG_len] at hy1
      have ey : y = ((y.toNat : Nat) : Int) := (Int.toNat_of_nonneg hy0).symm
      have him : (i : Int) ∈ compL W G.length i := (hp.mem _).2 ⟨hin, .refl _, .refl _⟩
      rcases hall (i : Int) him y.toNat (by omega) (by rw [Int.toNat_natCast]; exact (h.at_ _ _ hi (by omega)).2 (by rw [← ey]; exact hpy)) with e | e
      · rw [← ey] at e
        exact .inl ((hp.mem y).1 e).2.2
      · have := (hd.at_ y.toNat (by omega)).1 e
        rw [← ey] at this
        exact .inr this
  · intro hR x hx k hk hw
    have hxp := (hp.mem x).1 hx
    have hx0 := hxp.1.1
    have hx1 := hxp.1.2
    rw [cleanG_len] at hx1
    have ex : x = ((x.toNat : Nat) : Int) := (Int.toNat_of_nonneg hx0).symm
    have hxk := ((h.at_ x.toNat k (by omega) hk).1 hw).reach
    rw [← ex] at hxk
    have hkn := isNode_clean.2 (show isNode G (k : Int) from ⟨by omega, by omega⟩)
    rcases hR (k : Int) (hxp.2.1.trans hxk) with e | e
    · exact .inl ((hp.mem _).2 ⟨hkn, hxp.2.1.trans hxk, e⟩)
    · exact .inr ((hd.at_ k hk).2 e)
/-- Something is ready. -/
theorem ex_ready {H : List (List Int)} (hok : okG H) {D : List Int} : ∀ (m : Nat) (x : Int), rk H x = m → isNode H x → x ∉ D → ∃ y, isNode H y ∧ y ∉ D ∧ Rdy H D y := by
  intro m
  induction m using Nat.strongRecOn with
  | _ m ih =>
    intro x hm hx hD
    have key : ∀ {x y : Int}, isNode H x → Grf.Reach (adj H) x y → isNode H y := fun hx hr => by
      induction hr with
      | refl => exact hx
      | tail _ e ih => exact hok.adj ih e
    by_cases hR : Rdy H D x
    · exact ⟨x, hx, hD, hR⟩
    · unfold Rdy at hR
      have hex : ∃ y, Grf.Reach (adj H) x y ∧ ¬ Grf.Reach (adj H) y x ∧ y ∉ D := by
        by_cases h : ∃ y, Grf.Reach (adj H) x y ∧ ¬ Grf.Reach (adj H) y x ∧ y ∉ D
        · exact h
        · refine absurd (fun y hy => ?_) hR
          by_cases h1 : Grf.Reach (adj H) y x
          · exact .inl h1
          · by_cases h2 : y ∈ D
            · exact .inr h2
            · exact absurd ⟨y, hy, h1, h2⟩ h
      obtain ⟨y, h1, h2, h3⟩ := hex
      exact ih (rk H y) (by rw [← hm]; exact rk_lt hx h1 h2) y rfl (key hx h1) h3
/-- A list of parts, as far as it is made. -/
structure RL (H : List (List Int)) (L : List (List Int)) : Prop where
  st : ∀ k (h : k < L.length), Nxt H (L.take k).flatten L[k]
theorem RL.nil (H : List (List Int)) : RL H [] := ⟨fun k h => by simp at h⟩
theorem RL.snoc {H L : List (List Int)} {l : List Int} (h : RL H L) (hl : Nxt H L.flatten l) : RL H (L ++ [l]) := by
  refine ⟨fun k hk => ?_⟩
  rw [List.length_append, List.length_singleton] at hk
  by_cases e : k = L.length
  · subst e
    rw [List.take_left, List.getElem_concat_length rfl]
    exact hl
  · have hkl : k < L.length := by omega
    rw [List.take_append_of_le_length (by omega), List.getElem_append_left hkl]
    exact h.st k hkl
theorem RL.node {H L : List (List Int)} (h : RL H L) {k : Nat} (hk : k < L.length) {z : Int} (hz : z ∈ L[k]) : isNode H z := by
  obtain ⟨x, _, _, _, _, hp⟩ := h.st k hk
  exact ((hp.mem z).1 hz).1
theorem RL.disj {H L : List (List Int)} (h : RL H L) {j k : Nat} (hj : j < k) (hk : k < L.length) {z : Int} (hz : z ∈ L[k]) (hz2 : z ∈ L[j]'(by omega)) : False := by
  obtain ⟨x, x1, x2, _, _, hp⟩ := h.st k hk
  obtain ⟨y, _, _, _, _, hq⟩ := h.st j (by omega)
  have e1 := ((hp.mem z).1 hz).2
  have e2 := ((hq.mem z).1 hz2).2
  have hx : x ∈ L[j]'(by omega) := (hq.mem x).2 ⟨x1, e2.1.trans e1.2, e1.1.trans e2.2⟩
  exact x2 (List.mem_flatten.2 ⟨L[j]'(by omega), List.mem_take_iff_getElem.2 ⟨j, by omega, rfl⟩, hx⟩)
theorem RL.nodup {H L : List (List Int)} (hI : RL H L) : L.flatten.Nodup := by
  unfold List.Nodup
  rw [List.pairwise_flatten]
  refine ⟨fun l hl => ?_, ?_⟩
  · obtain ⟨k, hk, rfl⟩ := List.getElem_of_mem hl
    obtain ⟨_, _, _, _, _, h⟩ := hI.st k hk
    exact h.srt.imp (fun h => by omega)
  · rw [List.pairwise_iff_getElem]
    intro i j hi hj hij a ha b hb e
    subst e
    exact hI.disj hij hj hb ha
theorem RL.sub {H L : List (List Int)} (hI : RL H L) : ∀ x ∈ L.flatten, x ∈ nodes H := fun x hx => by
  obtain ⟨l, hl, hx⟩ := List.mem_flatten.1 hx
  obtain ⟨k, hk, rfl⟩ := List.getElem_of_mem hl
  exact (mem_nodes H x).2 (hI.node hk hx)
theorem RL.le {H L : List (List Int)} (hI : RL H L) : L.flatten.length ≤ H.length := by
  have := Grf.Tj.nodup_len _ (nodes H) hI.nodup hI.sub
  rwa [nodes_len] at this
theorem RL.isC {H L : List (List Int)} (hI : RL H L) (hf : L.flatten.length = H.length) : IsC H L := by
  refine ⟨hI.st, fun x hx => ?_⟩
  by_cases h : x ∈ L.flatten
  · exact h
  · have := Grf.Tj.nodup_len (x :: L.flatten) (nodes H) (List.nodup_cons.2 ⟨h, hI.nodup⟩) (fun y hy => by
      rcases List.mem_cons.1 hy with rfl | hy
      · exact (mem_nodes H y).2 hx
      · exact hI.sub y hy)
    rw [nodes_len, List.length_cons] at this
    omega
theorem RL.more {H L : List (List Int)} (hI : RL H L) (hf : L.flatten.length < H.length) : ∃ x, isNode H x ∧ x ∉ L.flatten := by
  by_cases h : ∃ x, isNode H x ∧ x ∉ L.flatten
  · exact h
  · have := Grf.Tj.nodup_len (nodes H) L.flatten (nodes_nodup H) (fun y hy => by
      by_cases hy2 : y ∈ L.flatten
      · exact hy2
      · exact absurd ⟨y, (mem_nodes H y).1 hy, hy2⟩ h)
    rw [nodes_len] at this
    omega
theorem RL.ne {H L : List (List Int)} (hI : RL H L) : ∀ l ∈ L, 0 < l.length := fun l hl => by
  obtain ⟨k, hk, rfl⟩ := List.getElem_of_mem hl
  obtain ⟨x, x1, _, _, _, h⟩ := hI.st k hk
  exact List.length_pos_of_mem ((h.mem x).2 ⟨x1, .refl _, .refl _⟩)
theorem RL.len_le {H L : List (List Int)} (hI : RL H L) : L.length ≤ L.flatten.length := by
  have key : ∀ L : List (List Int), (∀ l ∈ L, 0 < l.length) → L.length ≤ L.flatten.length := by
    intro L
    induction L with
    | nil => intro _; simp
    | cons l L ih =>
      intro h
      have h1 := h l List.mem_cons_self
      have h2 := ih (fun x hx => h x (List.mem_cons_of_mem _ hx))
      simp only [List.length_cons, List.flatten_cons, List.length_append]
      omega
  exact key L hI.ne
end Go.Proofs.Ytmlikgmcekofbaa
end

