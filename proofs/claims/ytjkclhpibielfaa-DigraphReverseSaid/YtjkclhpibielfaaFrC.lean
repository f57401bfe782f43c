/- slices.Repeat at one -1. -/
import Derived.Test.YtjkclhpibielfaaFrB
import Derived.Laws.CopyOwn
set_option linter.unusedVariables false
set_option linter.unusedSimpArgs false
namespace Go.Proofs.Ytjkclhpibielfaa
open Go.RowKit Go.Proofs.YtjkclhpibielfaaW.PrintWords Go.Proofs.Ytjkclhpibielfaa.PDigraphTells Mem

theorem and_small (x : Nat) (h : x < 4294967296) : Go.bits BinOp.and IntKind.u64 (x : Int) 4294967295 = (x : Int) := by
  have h1 := Go.Proofs.Ytjkclhpibielfaa.Bit.bits_nat BinOp.and x 4294967295
  have h2 : Go.Proofs.Ytjkclhpibielfaa.Bit.opv BinOp.and x 4294967295 = x := by
    unfold Go.Proofs.Ytjkclhpibielfaa.Bit.opv
    simp only [BitVec.toNat_and, BitVec.toNat_ofNat]
    have e1 : x % 2 ^ 64 = x := Nat.mod_eq_of_lt (by omega)
    rw [e1, show 4294967295 % 2 ^ 64 = 2 ^ 32 - 1 by decide, Nat.and_two_pow_sub_one_eq_mod]
    exact Nat.mod_eq_of_lt h
  rw [h2] at h1
  exact h1
theorem wrap_small (x : Nat) (h : x < 18446744073709551616) : IntKind.u64.wrap (x : Int) = (x : Int) := Go.Proofs.Ytjkclhpibielfaa.Bit.wrap_u x h
theorem mul_one (N : Nat) (h : N < 4294967296) : bits_Mul.f 1 (N : Int) = some (0, (N : Int)) := by
  have h1 : Go.bits BinOp.and IntKind.u64 1 4294967295 = 1 := and_small 1 (by omega)
  have h2 := and_small N h
  have h0 : Go.bits BinOp.and IntKind.u64 0 4294967295 = 0 := and_small 0 (by omega)
  have d1 : (1 : Int) / 4294967296 = 0 := by omega
  have d2 : (N : Int) / 4294967296 = 0 := by omega
  have w0 : IntKind.u64.wrap 0 = 0 := wrap_small 0 (by omega)
  have wN := wrap_small N (by omega)
  have z : (0 : Int) / 4294967296 = 0 := by omega
  unfold bits_Mul.f bits_Mul64.f
  simp only [d1, d2, h1, h2, Int.zero_mul, Int.mul_zero, w0, Int.one_mul, wN, Int.zero_add, Int.add_zero, h0, z, Option.bind_some]
theorem mul_any (N : Nat) (h : N < 4294967296) (w : World) : Calls Try.prog 41 #[.int .u64 1, .int .u64 (N : Int)] w fun e w' => e = .returned (.tuple #[.int .u64 0, .int .u64 (N : Int)]) ∧ ∃ q, w' = w.drewN q :=
  (bits_Mul.calls 1 (N : Int) 0 (N : Int) w (mul_one N h)).mono fun e w' h => ⟨h.1, h.2.out⟩

/-- The zeros of make. -/
theorem cells_zero (N : Nat) : madeCells (Value.int .i64 0).cells N = (List.replicate N (Value.int .i64 0)).toArray := by
  unfold madeCells
  apply Array.ext
  · simp
  · intro i h1 h2
    simp [Value.cells, Nat.mod_one]
theorem info3' : ∃ i, Try.prog.info? 3 = some i ∧ i.zero = some (.int .i64 0) ∧ i.size = 1 ∧ i.bytes = 8 := by
  obtain ⟨i, h1, h2⟩ := Option.map_eq_some_iff.1 info3
  simp only [Prod.mk.injEq] at h2
  exact ⟨i, h1, h2.1, h2.2.1, h2.2.2⟩
theorem make_run (N : Nat) (hN : N ≤ 70000) (w : World) : (Instr.makeSlice 36 (.int .i64 (N : Int)) (.int .i64 (N : Int))).run Try.prog w = .ok (.slice (some ⟨w.heap.size, 0, none⟩) N N) (w.alloc (.cells (List.replicate N (Value.int .i64 0)).toArray 3)) := by
  obtain ⟨i, h1, h2, h3, h4⟩ := info3'
  have h := run_make (P := Try.prog) w 36 3 i (.int .i64 0) Try.underlying36 h1 h2 .i64 .i64 (N : Int) (N : Int) (by omega) (by omega) (by rw [h4]; omega) (by omega)
  rw [Int.toNat_natCast, h3, Nat.mul_one, cells_zero] at h
  exact h
/-- The row when m cells are written. -/
def rst (N m : Nat) : List Value := List.replicate m (Value.int .i64 (-1)) ++ List.replicate (N - m) (Value.int .i64 0)
theorem rst_len {N m : Nat} (h : m ≤ N) : (rst N m).length = N := by unfold rst; simp; omega
theorem rst_splice {N m k : Nat} (h : m + k ≤ N) : splice (rst N m) m (List.replicate k (Value.int .i64 (-1))) = rst N (m + k) := by
  unfold splice rst
  have e1 : (List.replicate m (Value.int .i64 (-1)) ++ List.replicate (N - m) (Value.int .i64 0)).take m = List.replicate m (Value.int .i64 (-1)) := by
    rw [List.take_append_of_le_length (by simp)]; simp
  have e2 : (List.replicate m (Value.int .i64 (-1)) ++ List.replicate (N - m) (Value.int .i64 0)).drop (m + (List.replicate k (Value.int .i64 (-1))).length) = List.replicate (N - (m + k)) (Value.int .i64 0) := by
    rw [List.length_replicate, List.drop_append, List.length_replicate, List.drop_eq_nil_of_le (by simp), List.nil_append, List.drop_replicate]
    congr 1; omega
  rw [e1, e2, ← List.append_assoc, List.replicate_append_replicate]
theorem rst_zero (N : Nat) : rst N 0 = List.replicate N (Value.int .i64 0) := by unfold rst; simp
theorem size3 : (Try.prog.info? 3).map (·.size) = some 1 := by
  obtain ⟨i, h1, h2, h3, h4⟩ := info3'
  rw [h1, Option.map_some, h3]
set_option maxRecDepth 100000 in
set_option maxHeartbeats 1000000 in
theorem repeat_any (A : Option Addr) (c : Nat) (N : Nat) (w : World) (hC : Kd.C (Kd.int .i64) w A 1 [-1]) (hc : 1 ≤ c) (hN : 0 < N) (hm : N ≤ 65536) :
    Calls Try.prog 40 #[.slice A 1 c, .int .i64 (N : Int)] w fun e w' => ∃ v, e = .returned v ∧ Kd.R (Kd.int .i64) 3 w' 0 (fun k => w.heap.size ≤ k) v (List.replicate N (-1)) ∧ Below w.heap.size w w' := by
  have hmk := fun w => make_run N (by omega) w
  have hX := Aside0.mk (And.intro hC hc)
  have hn0 : ¬ ((N : Int) < 0) := by omega
  have wN : IntKind.u64.wrap (N : Int) = (N : Int) := wrap_small N (by omega)
  have w1 : IntKind.u64.wrap 1 = 1 := wrap_small 1 (by omega)
  have wi : IntKind.i64.wrap (N : Int) = (N : Int) := by simp [IntKind.wrap, IntKind.signed, IntKind.bits]; omega
  have hb : ¬ (9223372036854775807 < (N : Int)) := by omega
  clear hC hc
  go_enter Try.func40, Try.ntmps40
  go_wp2_with fail
  refine (mul_any N (by omega) _).mono ?_
  rintro e w2 ⟨rfl, q, rfl⟩
  obtain ⟨ad, eA, a0⟩ := Kd.at_int (Kd.C_drewN hX.out.1 q) (0 : Int) (by omega) (by omega)
  rw [show rd [-1] 0 = -1 from rfl, show (0 : Int).toNat = 0 from rfl, add0'] at a0
  subst eA
  obtain ⟨g, hg⟩ : ∃ g, g = w.heap.size := ⟨_, rfl⟩
  have a1 : ((w.drewN q).alloc (.cells (List.replicate N (Value.int .i64 0)).toArray 3)).cell? ad = some (.int .i64 (-1)) := by
    have h1 := Below.heap_alloc (w.drewN q) (.cells (List.replicate N (Value.int .i64 0)).toArray 3) ad.block (World.block_lt_of_cell? _ _ a0)
    simp only [World.cell?, h1] at a0 ⊢
    exact a0
  have h0 : ((w.drewN q).alloc (.cells (List.replicate N (Value.int .i64 0)).toArray 3)).heap[g]? = some (.cells (rst N 0).toArray 3 (0, 0)) := by
    rw [rst_zero, hg]; exact heap_alloc_new (w.drewN q) _
  have hb0 : Below w.heap.size w ((w.drewN q).alloc (.cells (List.replicate N (Value.int .i64 0)).toArray 3)) := below_alloc (pw_below_drewN (Below.refl _ _) _) _
  obtain ⟨W, hW⟩ : ∃ W, (w.drewN q).alloc (.cells (List.replicate N (Value.int .i64 0)).toArray 3) = W := ⟨_, rfl⟩
  rw [hW] at a1 h0 hb0
  have hZ := Aside0.mk (And.intro h0 (And.intro hb0 (show w.heap.size ≤ g by omega)))
  have hmk2 : (Instr.makeSlice 36 (.int .i64 (N : Int)) (.int .i64 (N : Int))).run Try.prog (w.drewN q) = .ok (.slice (some ⟨g, 0, none⟩) N N) W := by rw [← hW, hg]; exact hmk (w.drewN q)
  have hmin : Nat.min 1 N = 1 := by show min 1 N = 1; omega
  clear hmk hW h0 hb0 hg a0
  have k1 : (List.replicate 1 (Value.int .i64 (-1))).length = Nat.min 1 N := by rw [hmin]; rfl
  have k2 : ∀ j v, (List.replicate 1 (Value.int .i64 (-1)))[j]? = some v → W.cell? (ad.add j) = some v := by
    intro j v hj
    rcases j with _ | j
    · simp at hj; rw [← hj, add0']; exact a1
    · simp at hj
  have k3 : 0 + (List.replicate 1 (Value.int .i64 (-1))).length ≤ (rst N 0).length := by rw [rst_len (Nat.zero_le _), List.length_replicate]; omega
  have k4 : ∀ v ∈ List.replicate 1 (Value.int .i64 (-1)), v.oneCell' = true := by intro v hv; rw [List.eq_of_mem_replicate hv]; rfl
  have hK := Aside0.mk (And.intro k1 (And.intro k2 (And.intro k3 k4)))
  clear k1 k2 k3 k4 hmin a1
  go_wp2_with (refine wpList_copy_splice rfl (.tmp 31) (.tmp 32) 36 36 rfl 3 Try.underlying36 size3 (some ⟨g, 0, none⟩) (some ad) N N 1 c (by rfl) (by rfl) g 0 (rst N 0) 3 hZ.out.1 (List.replicate 1 (Value.int .i64 (-1))) hK.out.1 (fun _ => ⟨rfl, ad, rfl, hK.out.2.1⟩) hK.out.2.2.1 hK.out.2.2.2 w.heap.size w hZ.out.2.1 hZ.out.2.2 ?_; intro w4 hg4 hb4)
  have hI : Aside0 (w4.heap[g]? = some (.cells (rst N 1).toArray 3 (0, 0)) ∧ Below w.heap.size w w4) := ⟨by have h := hg4; rw [rst_splice (by omega)] at h; exact h, hb4⟩
  have hge := Aside0.mk hZ.out.2.2
  clear hg4 hb4 hK hmk2 hZ
  go_loopg [8] N (fun n v wi => ∃ m : Nat, 1 ≤ m ∧ m ≤ N ∧ N ≤ m + n ∧ v = .int .i64 (m : Int) ∧ Aside0 (wi.heap[g]? = some (.cells (rst N m).toArray 3 (0, 0)) ∧ Below w.heap.size w wi))
  case atStart => exact ⟨1, by omega, by omega, by omega, rfl, hI⟩
  case round =>
    obtain ⟨m, hm1, hm2, hm3, rfl, hJ⟩ := hrel
    clear hI
    by_cases hlt : m < N
    · have hlti : (m : Int) < N := by omega
      have hle : (m : Int) ≤ N := by omega
      have hm0 : (0 : Int) ≤ (m : Int) := by omega
      have hne : ¬ N = m := by omega
      obtain ⟨gk1, rfl⟩ : ∃ q, gk = q + 1 := ⟨gk - 1, by omega⟩
      obtain ⟨k, hk⟩ : ∃ k, k = Nat.min m (N - m) := ⟨_, rfl⟩
      have hkm : k ≤ m := by rw [hk]; exact Nat.min_le_left _ _
      have hkN : m + k ≤ N := by have : k ≤ N - m := by rw [hk]; exact Nat.min_le_right _ _
                                 omega
      have hk0 : 0 < k := by rw [hk]; show 0 < min m (N - m); omega
      have k1 : (List.replicate k (Value.int .i64 (-1))).length = Nat.min m (N - m) := by rw [List.length_replicate, hk]
      have k2 : ∀ j v, (List.replicate k (Value.int .i64 (-1)))[j]? = some v → wr.drew.cell? ((⟨g, 0, none⟩ : Addr).add j) = some v := by
        intro j v hj
        obtain ⟨hjl, e⟩ := List.getElem?_eq_some_iff.1 hj
        rw [List.length_replicate] at hjl
        rw [List.getElem_replicate] at e
        rw [← e, add0]
        refine cell_at (w := wr.drew) hJ.out.1 ?_
        unfold rst
        simp [List.getElem?_append, List.getElem?_replicate, show j < m by omega]
      have k3 : m + (List.replicate k (Value.int .i64 (-1))).length ≤ (rst N m).length := by rw [rst_len hm2, List.length_replicate]; omega
      have k4 : ∀ v ∈ List.replicate k (Value.int .i64 (-1)), v.oneCell' = true := by intro v hv; rw [List.eq_of_mem_replicate hv]; rfl
      have hK := Aside0.mk (And.intro k1 (And.intro k2 (And.intro k3 k4)))
      have hmg : N ≤ (m + k) + gk1 := by omega
      have hmk1 : 1 ≤ m + k := by omega
      have hgk : gk1 < gk1 + 1 := by omega
      have hw5 : IntKind.i64.wrap ((m : Int) + (k : Int)) = ((m + k : Nat) : Int) := by simp [IntKind.wrap, IntKind.signed, IntKind.bits]; omega
      have hgi : goInt (List.replicate k (Value.int .i64 (-1))).length = .int .i64 (k : Int) := by rw [List.length_replicate]; rfl
      clear k1 k2 k3 k4 hk
      go_wp2_with fail
      go_region_law (first
        | ((refine step_copy_splice rfl (.tmp 41) (.tmp 44) 36 36 rfl 3 Try.underlying36 size3 (some ⟨g, m, none⟩) (some ⟨g, 0, none⟩) (N - m) (N - m) m N ?a7 ?a8 g m (rst N m) 3 hJ.out.1 (List.replicate k (Value.int .i64 (-1))) hK.out.1 (fun _ => ⟨rfl, ⟨g, 0, none⟩, rfl, hK.out.2.1⟩) hK.out.2.2.1 hK.out.2.2.2 w.heap.size w (below_drew1 hJ.out.2) hge.out ?_)
           (case a7 => simp [Act.eval, Act.put])
           (case a8 => simp [Act.eval, Act.put])
           intro w5 hg5 hb5
           rw [hgi]))
      all_goals
        go_wp2
        have hI : Aside0 (w5.heap[g]? = some (.cells (rst N (m + k)).toArray 3 (0, 0)) ∧ Below w.heap.size w w5) := ⟨by have h := hg5; rw [rst_splice hkN] at h; exact h, hb5⟩
        clear hg5 hb5 hK hJ hw5
        go_roundg gk1
        case rel => exact ⟨m + k, hmk1, hkN, hmg, rfl, hI⟩
        case measure => exact hgk
    · obtain rfl : m = N := by omega
      have hRr : Kd.R (Kd.int .i64) 3 wr 0 (fun k => w.heap.size ≤ k) (.slice (some ⟨g, 0, none⟩) m m) (List.replicate m (-1)) := by
        refine Kd.R_of_own ?_ (fun k hk => by have : g = k := by simpa [Value.ownBlock] using hk
                                              rw [← this]; exact hge.out)
        have e : rst m m = encs (Value.int .i64) (List.replicate m (-1)) := by unfold rst encs; simp
        have hh := hJ.out.1
        rw [e] at hh
        refine ⟨by simp [encs], .inr ⟨g, m, (encs (Value.int .i64) (List.replicate m (-1))).toArray, by rw [List.length_replicate], Nat.zero_le _, hh, ?_, ?_, ?_, ?_⟩⟩
        · rw [List.length_replicate]; exact Nat.le_refl _
        · unfold maxLen; omega
        · simp [encs]
        · rw [Nat.mul_one, List.take_of_length_le (by simp [encs])]
      have hR' := Aside0.mk hRr
      clear hRr
      go_wp2
      go_ret
      exact ⟨_, rfl, hR'.out, hJ.out.2⟩
end Go.Proofs.Ytjkclhpibielfaa
