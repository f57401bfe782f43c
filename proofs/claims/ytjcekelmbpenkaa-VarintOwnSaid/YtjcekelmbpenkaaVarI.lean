/- works(). -/
import Derived.Test.YtjcekelmbpenkaaVarH
set_option linter.unusedVariables false
set_option linter.unusedSimpArgs false
namespace Go.Proofs.Ytjcekelmbpenkaa
open Go.RowKit Go.Proofs.YtjcekelmbpenkaaW.PrintWords Mem VarPure

theorem lit_row {k : IntKind} {e : Nat} (w : World) (cs : Array Value) (l : List Int) (h : cs = (l.map (Value.int k)).toArray) (hl : l.length ≤ 1000) : Kd.C (Kd.int k) (w.alloc (.cells cs e)) (some ⟨w.heap.size, 0, none⟩) l.length l := by
  refine ⟨rfl, by omega, fun _ => ⟨_, rfl, fun j p hj => ⟨[.int k p], rfl, rfl, fun i u hu => ?_⟩⟩⟩
  subst h
  have hi : i = 0 ∧ u = .int k p := by
    cases i with
    | zero => simp at hu; exact ⟨rfl, hu.symm⟩
    | succ i => simp at hu
  obtain ⟨rfl, rfl⟩ := hi
  have : (w.alloc (.cells (l.map (Value.int k)).toArray e)).heap[w.heap.size]? = some (.cells (l.map (Value.int k)).toArray e (0, 0)) := heap_alloc_new w _
  have h2 := cell_at this (j := j) (v := .int k p) (by simp [hj])
  have e' : (⟨w.heap.size, 0, none⟩ : Addr).add (j * 1 + 0) = ⟨w.heap.size, j, none⟩ := by
    unfold Addr.add
    by_cases hj0 : j = 0 <;> simp [hj0]
  show (w.alloc _).cell? ((⟨w.heap.size, 0, none⟩ : Addr).add (j * 1 + 0)) = _
  rw [e']
  exact h2

theorem eqi_any (c0 c1 : Nat) (A0 A1 : Option Addr) (l m : List Int) (w : World) (h0 : Kd.C KI w A0 l.length l) (h1 : Kd.C KI w A1 m.length m) (g0 : l.length ≤ c0) (g1 : m.length ≤ c1) (hl : l.length ≤ 1000000) :
    Calls Try.prog 16 #[.slice A0 l.length c0, .slice A1 m.length c1] w fun e w' => e = .returned (.bool (decide (l = m))) ∧ ∃ n, w' = w.drewN n :=
  (PVarintPrefix.slices_Equal_int_int.calls (l.length + 1) A0 c0 l A1 c1 m _ w h0 g0 h1 g1 (eqi_f l m (by omega))).mono (fun e w' h => ⟨h.1, h.2.out⟩)
theorem eqb_any (c0 c1 : Nat) (A0 A1 : Option Addr) (l m : List Int) (w : World) (h0 : Kd.C Byt w A0 l.length l) (h1 : Kd.C Byt w A1 m.length m) (g0 : l.length ≤ c0) (g1 : m.length ≤ c1) (hl : l.length ≤ 1000000) :
    Calls Try.prog 10 #[.slice A0 l.length c0, .slice A1 m.length c1] w fun e w' => e = .returned (.bool (decide (l = m))) ∧ ∃ n, w' = w.drewN n :=
  (PVarintPrefix.slices_Equal_byte_byte.calls (l.length + 1) A0 c0 l A1 c1 m _ w h0 g0 h1 g1 (eq_f l m (by omega))).mono (fun e w' h => ⟨h.1, h.2.out⟩)

theorem bs_lit (l : List Int) (h : l.all (fun x => decide (0 ≤ x) && decide (x < 256)) = true) : Bs l := fun x hx => by
  have := List.all_eq_true.1 h x hx
  simpa using this

set_option maxHeartbeats 600000 in
theorem works_any (w : World) : Calls Try.prog 11 #[] w fun e w' => e = .returned (.bool true) ∧ Below w.heap.size w w' := by
  go_enter Try.func11, Try.ntmps11
  go_wp2_with fail
  refine (new_any 6 6 _ [4, 2, 0, 4, 97, 98] _ (lit_row w _ [4, 2, 0, 4, 97, 98] rfl (by decide)) (bs_lit _ (by decide)) (by omega)).mono ?_
  rintro e w1 ⟨p, rfl, R1, K1⟩
  have hal := ((Kp.refl (fun _ => False) w).alloc (.cells (List.map (Value.int .u8) [4, 2, 0, 4, 97, 98]).toArray 5)).size
  have H1 : Aside0 (Rdr w1 (fun k => w.heap.size ≤ k) p [4, 2, 0, 4, 97, 98] 0 ∧ Kp (fun k => w.heap.size ≤ k) w w1) := ⟨R1.mono (fun k hk => Nat.le_trans hal hk), ((Kp.refl _ w).alloc _).then_ K1 (fun _ h => h.elim)⟩
  clear R1 K1 hal
  go_wp2_with fail
  refine (ints_any H1.out.1).mono ?_
  rw [show rdIs [4, 2, 0, 4, 97, 98] 0 = ([1, 0], [4, 97, 98], 0) by decide]
  rintro e w2 ⟨v2, rfl, O2, R2, K2⟩
  obtain ⟨A2, c2, rfl, hc2, _⟩ := Kd.R_reads O2
  have H2 := Aside0.mk (And.intro O2 (And.intro R2 K2))
  clear O2 R2 K2
  go_wp2_with fail
  refine (string_any H2.out.2.1).mono ?_
  rw [show rdS [4, 97, 98] 0 = ([97, 98], [], 0) by decide, show strOfNums [97, 98] = { data := #[97, 98] } by rfl]
  rintro e w3 ⟨rfl, R3, K3⟩
  have H3 := Aside0.mk (And.intro R3 K3)
  clear R3 K3
  go_wp2_with fail
  refine (aint_any 1 1 _ [9] (-64) _ (lit_row w3 _ [9] rfl (by decide)) (by unfold I64; omega) (by omega)).mono ?_
  rw [show [9] ++ encI (-64) = [9, 127] by decide]
  rintro e w4 ⟨v4, rfl, O4, K4⟩
  obtain ⟨A4, c4, rfl, hc4, hC4⟩ := Kd.R_reads O4
  have hs : (convert 22 9 (.slice A4 2 c4)).run Try.prog w4 = .ok (.string { data := #[9, 127] }) w4 := Kd.C_string (P := Try.prog) (w := w4) (src := 22) (dst := 9) (c := c4) Try.underlying22 Try.underlying5 Try.underlying9 hC4
  have H4 := Aside0.mk K4
  clear K4 O4 hC4
  have hp1 := H1.out.1.okp
  have hpl := H1.out.1.lt
  have k3 : Aside0 (Kp (fun j => w.heap.size ≤ j) w w3) := ⟨(H1.out.2.then_ H2.out.2.2 (fun k hk => .inr (hk ▸ hp1))).then_ H3.out.2 (fun k hk => .inr (hk ▸ hp1))⟩
  have k4 : Aside0 (Kp (fun j => w.heap.size ≤ j) w w4) := ⟨(k3.out.alloc _).then_ H4.out (fun _ h => h.elim)⟩
  have R4 : Aside0 (Rdr w4 (fun k => w.heap.size ≤ k) p [] 0) := ⟨H3.out.1.step (fun k _ hlt => (H4.out.block (by simp; omega) (fun h => h)).trans (Below.heap_alloc w3 _ k hlt))⟩
  have O4 : Aside0 (Kd.R KI 3 w4 0 (fun j => w1.heap.size ≤ j) (.slice A2 2 c2) [1, 0]) := ⟨Kd.R_step (Kd.R_kept H2.out.1 H3.out.2.kept (fun k hk he => by omega)) (fun k _ hlt => (H4.out.block (by simp; omega) (fun h => h)).trans (Below.heap_alloc w3 _ k hlt))⟩
  obtain ⟨_, _, hC2⟩ := Kd.R_reads' O4.out
  have hC2' := Aside0.mk hC2
  clear hC2
  go_wp2_with fail
  refine (eqi_any c2 2 A2 _ [1, 0] [1, 0] _ (Kd.C_alloc hC2'.out _) (lit_row w4 _ [1, 0] rfl (by decide)) hc2 (by decide) (by decide)).mono ?_
  rw [show decide (([1, 0] : List Int) = [1, 0]) = true from rfl]
  rintro e w5 ⟨rfl, n5, rfl⟩
  go_wp2_with fail
  have R5 : Aside0 (Rdr ((w4.alloc (.cells #[.int .i64 1, .int .i64 0] 3)).drewN n5) (fun k => w.heap.size ≤ k) p [] 0) := ⟨R4.out.step (fun k _ hlt => Below.heap_alloc w4 _ k hlt)⟩
  refine (err_any R5.out).mono ?_
  rintro e w6 ⟨rfl, rfl⟩
  go_wp2_with fail
  refine (len_any R5.out).mono ?_
  rintro e w7 ⟨rfl, n7, rfl⟩
  go_wp2_with fail
  have kW := Aside0.mk ((k4.out.alloc (.cells #[.int .i64 1, .int .i64 0] 3)).drewN (n5 + n7))
  obtain ⟨W, hW⟩ : ∃ W, W = (w4.alloc (.cells #[.int .i64 1, .int .i64 0] 3)).drewN (n5 + n7) := ⟨_, rfl⟩
  have hs1 : w4.heap.size + 1 = W.heap.size := by rw [hW]; simp
  rw [← hW] at kW
  rw [← hW, hs1]
  clear hW hs1
  refine (new_any 1 1 _ [128] _ (lit_row W #[.int .u8 128] [128] rfl (by decide)) (bs_lit _ (by decide)) (by omega)).mono ?_
  rintro e w8 ⟨p8, rfl, R8, K8⟩
  have H8 := Aside0.mk (And.intro R8 K8)
  clear R8 K8
  go_wp2_with fail
  refine (err_any H8.out.1).mono ?_
  rintro e w9 ⟨rfl, rfl⟩
  go_wp2
  go_ret
  exact ⟨rfl, (kW.out.alloc _ |>.then_ H8.out.2 (fun _ h => h.elim)).below (fun _ h => h)⟩
end Go.Proofs.Ytjcekelmbpenkaa
