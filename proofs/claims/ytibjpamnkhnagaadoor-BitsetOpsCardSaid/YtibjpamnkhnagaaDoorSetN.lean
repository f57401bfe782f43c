/- same; what a pair of sets (the program's and the reference's) is. -/
import Derived.Test.YtibjpamnkhnagaaDoorRefD
set_option linter.unusedVariables false
set_option linter.unusedSimpArgs false
namespace Go.Proofs.YtibjpamnkhnagaaDoor
open Go.RowKit Go.Proofs.YtibjpamnkhnagaaDoorW.PrintWords Mem Bit

theorem elemsO_le (o : Option (List Bool)) (hl : lenO o ≤ 65536) : (elemsO o).length ≤ 65536 := Nat.le_trans (elemsO_length o) hl

set_option maxHeartbeats 1000000 in
theorem same_any (v t : Option Addr) (o : Option (List Bool)) (w : World) (hP : PS w (fun k => k < w.heap.size) v o) (hR : RP w (fun k => k < w.heap.size) t o) (hl : lenO o ≤ 65536) (hD : DB w) :
    Calls Tryd.prog 28 #[.pointer v, .pointer t] w fun e w' => e = .returned (.bool true) ∧ Below w.heap.size w w' := by
  have hP' := Aside0.mk hP
  have hR' := Aside0.mk hR
  have hD' := Aside0.mk hD
  have hl' := Aside0.mk hl
  have hle := elemsO_le o hl
  clear hP hR hD hl
  obtain ⟨n, hn⟩ : ∃ n, (elemsO o).length = n := ⟨_, rfl⟩
  obtain ⟨m, hm⟩ : ∃ m : Nat, (o.getD []).length = m := ⟨_, rfl⟩
  have hn' := Aside0.mk hn
  have hm' := Aside0.mk hm
  clear hn hm hle
  go_enter Tryd.func28, Tryd.ntmps28
  go_wp2_with fail
  refine (elems_any v o w hP'.out hl'.out hD'.out).mono ?_
  rintro e w1 ⟨u, rfl, hE, hB⟩
  have hE' := Aside0.mk hE
  have hB' := Aside0.mk hB
  clear hE hB
  go_wp2_with fail
  refine (cap_any v _ o w1 (hP'.out.step (fun k hk _ => hB'.out.block k hk))).mono ?_
  rw [hm'.out]
  rintro e w2 ⟨rfl, rfl⟩
  go_wp2_with fail
  refine (rcap_any t _ o w1 (hR'.out.step (fun k hk _ => hB'.out.block k hk))).mono ?_
  rw [hm'.out]
  rintro e w2 ⟨rfl, rfl⟩
  go_wp2_with fail
  refine (count_any v o w1 ((hP'.out.step (fun k hk _ => hB'.out.block k hk)).mono (fun k (hk : k < w.heap.size) => by have := hB'.out.size; omega)) hl'.out (hD'.out.below hB'.out)).mono ?_
  rw [hn'.out]
  rintro e w2 ⟨rfl, hB2⟩
  have hB2' := Aside0.mk hB2
  clear hB2
  go_wp2_with fail
  refine (rcount_any t _ o w2 ((hR'.out.step (fun k hk _ => hB'.out.block k hk)).step (fun k (hk : k < w.heap.size) _ => hB2'.out.block k (by have := hB'.out.size; omega))) (fun k (hk : k < w.heap.size) => by have := hB'.out.size; have := hB2'.out.size; omega)).mono ?_
  rw [hn'.out]
  rintro e w3 ⟨rfl, hB3⟩
  have hB3' := Aside0.mk hB3
  clear hB3
  go_wp2_with fail
  have hT : Below w.heap.size w w3 := (hB'.out.trans (hB2'.out.mono hB'.out.size)).trans (hB3'.out.mono (by have := hB'.out.size; have := hB2'.out.size; omega))
  have hE3 : Kd.R (Kd.int .i64) 3 w3 0 (fun k => w.heap.size ≤ k ∧ k < w1.heap.size) u (elemsO o) := Kd.R_step (Kd.R_mono (Kd.R_bound hE'.out) (fun k hk => ⟨hk.1, hk.2.2.1⟩)) (fun k hk _ => (hB3'.out.block k (by have := hB2'.out.size; omega)).trans (hB2'.out.block k hk.2))
  refine (rall_any t _ o w3 (hR'.out.step (fun k hk _ => hT.block k hk)) (fun k (hk : k < w.heap.size) => by have := hT.size; omega)).mono ?_
  rintro e w4 ⟨u2, rfl, hE4, hB4⟩
  have hF := Aside0.mk (And.intro hE3 (And.intro hE4 (And.intro hB4 hT)))
  clear hE3 hE4 hB4 hT
  obtain ⟨A1, c1, rfl, k1, C1⟩ := Kd.R_reads (Kd.R_step hF.out.1 (fun k hk _ => hF.out.2.2.1.block k (by have := hB3'.out.size; have := hB2'.out.size; omega)))
  obtain ⟨A2, c2, rfl, k2, C2⟩ := Kd.R_reads hF.out.2.1
  have C1' := Aside0.mk C1
  have C2' := Aside0.mk C2
  clear C1 C2
  go_wp2_with fail
  --!STOP
  refine (law_equal A1 c1 (elemsO o) A2 c2 (elemsO o) w4 C1'.out k1 C2'.out k2 (by have := elemsO_le o hl'.out; omega) true (by simp)).mono ?_
  rintro e w5 ⟨rfl, q, rfl⟩
  go_wp2
  go_ret
  exact ⟨rfl, pw_below_drewN (hF.out.2.2.2.trans (hF.out.2.2.1.mono hF.out.2.2.2.size)) q⟩
end Go.Proofs.YtibjpamnkhnagaaDoor
