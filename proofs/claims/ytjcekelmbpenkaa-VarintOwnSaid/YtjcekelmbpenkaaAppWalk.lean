/- VarintAppends: the walk. -/
import Derived.Test.YtjcekelmbpenkaaVarI
import Derived.Test.YtjcekelmbpenkaaOpens
set_option linter.unusedVariables false
set_option linter.unusedSimpArgs false
namespace Go.Proofs.Ytjcekelmbpenkaa
open Go.RowKit Go.Proofs.YtjcekelmbpenkaaW.PrintWords Mem VarPure

theorem wf_u8 {l : List Int} (h : ∀ x ∈ l, (Lit.int .u8 x).wf = true) : Bs l := fun x hx => by
  have := h x hx
  simp [Lit.wf, IntKind.min, IntKind.max, IntKind.signed, IntKind.bits] at this
  omega
theorem wf_i64 {x : Int} (h : (Lit.int .i64 x).wf = true) : I64 x := by
  simp [Lit.wf, IntKind.min, IntKind.max, IntKind.signed, IntKind.bits] at h
  unfold I64
  omega

set_option maxRecDepth 100000 in
set_option maxHeartbeats 1000000 in
theorem appends_walk (A : Option Addr) (c : Nat) (b : List Int) (A2 : Option Addr) (c2 : Nat) (q : List Int) (s : ByteArray) (w : World)
    (hc : b.length ≤ c) (hC : Kd.C Byt w A b.length b) (hg : b.length * 1 ≤ 140737488351232 ∧ ∀ x ∈ b, (Lit.int .u8 x).wf = true)
    (hc2 : q.length ≤ c2) (hC2 : Kd.C KI w A2 q.length q) (hg2 : q.length * 8 ≤ 140737488351232 ∧ ∀ x ∈ q, (Lit.int .i64 x).wf = true) (hs : s.size ≤ 140737488351232) :
    Calls Try.prog 5 #[.slice A b.length c, .slice A2 q.length c2, .string s] w fun e w' => e = .returned (.bool true) ∧ Below w.heap.size w w' := by
  have hX := Aside0.mk (And.intro hC (And.intro hC2 (And.intro (wf_u8 hg.2) (fun x hx => wf_i64 (hg2.2 x hx)))))
  have hbl := hg.1
  have hql := hg2.1
  clear hg hg2 hC hC2
  by_cases e1 : 200 < b.length
  · have d1 : decide ((200 : Int) < b.length) = true := by simp; omega
    go_enter Try.func5, Try.ntmps5
    go_wp2_with (go_at_call 11; refine (works_any _).mono ?_; rintro r w1 ⟨rfl, hB⟩)
    go_ret
    exact ⟨rfl, hB⟩
  have d1 : decide ((200 : Int) < b.length) = false := by simp; omega
  by_cases e2 : 100 < q.length
  · have d2 : decide ((100 : Int) < q.length) = true := by simp; omega
    go_enter Try.func5, Try.ntmps5
    go_wp2_with (go_at_call 11; refine (works_any _).mono ?_; rintro r w1 ⟨rfl, hB⟩)
    go_ret
    exact ⟨rfl, hB⟩
  have d2 : decide ((100 : Int) < q.length) = false := by simp; omega
  by_cases e3 : 500 < s.size
  · have d3 : decide ((500 : Int) < s.size) = true := by simp; omega
    go_enter Try.func5, Try.ntmps5
    go_wp2_with (go_at_call 11; refine (works_any _).mono ?_; rintro r w1 ⟨rfl, hB⟩)
    go_ret
    exact ⟨rfl, hB⟩
  have d3 : decide ((500 : Int) < s.size) = false := by simp; omega
  go_enter Try.func5, Try.ntmps5
  go_wp2
  go_loopw [25] (fun v wr => ∃ k : Nat, k ≤ q.length ∧ v = .int .i64 k ∧ Aside0 (Kp (fun _ => False) w wr)) (fun v _ => q.length - (intOf v).toNat)
  case atStart => exact ⟨0, Nat.zero_le _, rfl, ⟨Kp.refl _ _⟩⟩
  case round =>
    obtain ⟨k, hk, rfl, hK⟩ := hrel
    by_cases hlt : k < q.length
    · obtain ⟨ad, rfl, hc0⟩ := (Kd.reads_of_C (enc := Value.int .i64) (d := (0 : Int)) (h1 := fun _ => rfl) (Kd.C_below hX.out.2.1 hK.out.none_below)).at_ k (by omega) (by omega)
      obtain ⟨x, hx⟩ : ∃ x, x = q[k] := ⟨_, rfl⟩
      have hc1 : wr.cell? (ad.add k) = some (.int .i64 x) := by rw [hx]; simpa [rdOf, hlt] using hc0
      have hxI : Aside0 (I64 x) := ⟨hx ▸ hX.out.2.2.2 _ (List.getElem_mem hlt)⟩
      have hxl := (encI_len x).2
      clear hx hc0
      go_wp2_with fail
      refine (aint_any b.length c A b x wr (Kd.C_below hX.out.1 hK.out.none_below) hxI.out (by omega)).mono ?_
      rintro r w1 ⟨v1, rfl, hR1, hK1⟩
      have h1 := Aside0.mk (And.intro hR1 (hK.out.then_ hK1 (fun _ h => h.elim)))
      clear hR1 hK1
      go_wp2_with fail
      refine (raint_any b.length c A b x w1 (Kd.C_below hX.out.1 h1.out.2.none_below) hxI.out (by omega)).mono ?_
      rintro r w2 ⟨v2, rfl, hR2, hK2⟩
      obtain ⟨y, hy⟩ : ∃ y, y = b ++ encI x := ⟨_, rfl⟩
      have hyl : y.length ≤ 1000 := by rw [hy, List.length_append]; omega
      have hR1 := Kd.R_below h1.out.1 hK2.none_below
      rw [← hy] at hR1 hR2
      obtain ⟨A3, c3, rfl, hc3, hC3⟩ := Kd.R_reads hR1
      obtain ⟨A4, c4, rfl, hc4, hC4⟩ := Kd.R_reads hR2
      have h3 := Aside0.mk (And.intro hC3 (And.intro hC4 (h1.out.2.then_ hK2 (fun _ h => h.elim))))
      clear hC3 hC4 hK2 hR1 hR2 hy
      go_wp2_with fail
      refine (eqb_any c3 c4 A3 A4 y y w2 h3.out.1 h3.out.2.1 hc3 hc4 (by omega)).mono ?_
      rw [show decide (y = y) = true by simp]
      rintro r w4 ⟨rfl, n4, rfl⟩
      go_wp2
      go_roundw
      case rel => exact ⟨k + 1, by omega, by go_num, ⟨h3.out.2.2.drewN _⟩⟩
      case measure => simp [intOf]; omega
    · have hke : k = q.length := by omega
      clear hke
      go_wp2_with fail
      refine (aints_any b.length c q.length c2 A A2 b q wr (Kd.C_below hX.out.1 hK.out.none_below) (Kd.C_below hX.out.2.1 hK.out.none_below) hX.out.2.2.2 (by omega) (by omega)).mono ?_
      rintro r w1 ⟨v1, rfl, hR1, hK1⟩
      have h1 := Aside0.mk (And.intro hR1 (hK.out.then_ hK1 (fun _ h => h.elim)))
      clear hR1 hK1
      go_wp2_with fail
      refine (raints_any b.length c q.length c2 A A2 b q w1 (Kd.C_below hX.out.1 h1.out.2.none_below) (Kd.C_below hX.out.2.1 h1.out.2.none_below) hX.out.2.2.2 (by omega) (by omega)).mono ?_
      rintro r w2 ⟨v2, rfl, hR2, hK2⟩
      obtain ⟨y, hy⟩ : ∃ y, y = b ++ encL q := ⟨_, rfl⟩
      have hyl : y.length ≤ 100000 := by have := encL_len q; rw [hy, List.length_append]; omega
      have hR1 := Kd.R_below h1.out.1 hK2.none_below
      rw [← hy] at hR1 hR2
      obtain ⟨A3, c3, rfl, hc3, hC3⟩ := Kd.R_reads hR1
      obtain ⟨A4, c4, rfl, hc4, hC4⟩ := Kd.R_reads hR2
      have h3 := Aside0.mk (And.intro hC3 (And.intro hC4 (h1.out.2.then_ hK2 (fun _ h => h.elim))))
      clear hC3 hC4 hK2 hR1 hR2 hy
      go_wp2_with fail
      refine (eqb_any c3 c4 A3 A4 y y w2 h3.out.1 h3.out.2.1 hc3 hc4 (by omega)).mono ?_
      rw [show decide (y = y) = true by simp]
      rintro r w4 ⟨rfl, n4, rfl⟩
      have h4 := Aside0.mk (h3.out.2.2.drewN n4)
      obtain ⟨W, hW⟩ : ∃ W, W = w2.drewN n4 := ⟨_, rfl⟩
      rw [← hW] at h4 ⊢
      clear hW
      go_wp2_with fail
      refine (astr_any b.length c A b s W (Kd.C_below hX.out.1 h4.out.none_below) (by omega) (by omega)).mono ?_
      rintro r w5 ⟨v5, rfl, hR5, hK5⟩
      have h5 := Aside0.mk (And.intro hR5 (h4.out.then_ hK5 (fun _ h => h.elim)))
      clear hR5 hK5
      go_wp2_with fail
      refine (rastr_any b.length c A b s w5 (Kd.C_below hX.out.1 h5.out.2.none_below) (by omega) (by omega)).mono ?_
      rintro r w6 ⟨v6, rfl, hR6, hK6⟩
      obtain ⟨z, hz⟩ : ∃ z, z = b ++ encS s := ⟨_, rfl⟩
      have hzl : z.length ≤ 100000 := by have := (encI_len (s.size : Int)).2; rw [hz, encS, List.length_append, List.length_append, bytesOf_length]; omega
      have hR5 := Kd.R_below h5.out.1 hK6.none_below
      rw [← hz] at hR5 hR6
      obtain ⟨A7, c7, rfl, hc7, hC7⟩ := Kd.R_reads hR5
      obtain ⟨A8, c8, rfl, hc8, hC8⟩ := Kd.R_reads hR6
      have h7 := Aside0.mk (And.intro hC7 (And.intro hC8 (h5.out.2.then_ hK6 (fun _ h => h.elim))))
      clear hC7 hC8 hK6 hR5 hR6 hz
      go_wp2_with fail
      refine (eqb_any c7 c8 A7 A8 z z w6 h7.out.1 h7.out.2.1 hc7 hc8 (by omega)).mono ?_
      rw [show decide (z = z) = true by simp]
      rintro r w8 ⟨rfl, n8, rfl⟩
      go_wp2_with (go_at_call 11; refine (works_any _).mono ?_; rintro r w9 ⟨rfl, hB⟩)
      go_ret
      exact ⟨rfl, below_then (h7.out.2.2.drewN n8).none_below (h7.out.2.2.drewN n8).size hB⟩
end Go.Proofs.Ytjcekelmbpenkaa
