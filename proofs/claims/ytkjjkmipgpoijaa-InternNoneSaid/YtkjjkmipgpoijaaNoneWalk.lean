/- InternNone: the walk. -/
import Derived.Test.YtkjjkmipgpoijaaTabG
import Derived.Test.YtkjjkmipgpoijaaOpens
set_option linter.unusedVariables false
set_option linter.unusedSimpArgs false
namespace Go.Proofs.Ytkjjkmipgpoijaa
open Go.RowKit Go.Maps Go.Proofs.YtkjjkmipgpoijaaW.PrintWords Mem

set_option maxRecDepth 100000 in
set_option maxHeartbeats 1000000 in
theorem none_walk (A : Option Addr) (c : Nat) (l : List Int) (i : Int) (w : World) (hc : l.length ≤ c) (hC : Kd.C (Kd.int .u8) w A l.length l) (hg : l.length * 1 ≤ 140737488351232 ∧ ∀ x ∈ l, (Lit.int .u8 x).wf = true) (wi : (Lit.int .i64 i).wf = true) :
    Calls Try.prog 6 #[.slice A l.length c, .int .i64 i] w fun e w' => e = .returned (.bool true) ∧ Below w.heap.size w w' := by
  clear hC hg wi hc
  obtain ⟨W, hW⟩ : ∃ W : World, W = (w.alloc (.cells #[.int .i64 0, .map none, .slice none 0 0] 48)).alloc (.cells #[.pointer none, .pointer (some ⟨w.heap.size, 0, none⟩)] 29) := ⟨_, rfl⟩
  have z1 : W.cell? ⟨w.heap.size, 1, none⟩ = some (.map none) := by rw [hW]; exact cell_at ((Below.heap_alloc _ _ _ (by simp)).trans (heap_alloc_new w _)) rfl
  have p0 : W.cell? ⟨w.heap.size + 1, 0, none⟩ = some (.pointer none) := by rw [hW]; exact cell_at (by simpa using heap_alloc_new (w.alloc (.cells #[.int .i64 0, .map none, .slice none 0 0] 48)) _) rfl
  have p1 : W.cell? ⟨w.heap.size + 1, 1, none⟩ = some (.pointer (some ⟨w.heap.size, 0, none⟩)) := by rw [hW]; exact cell_at (by simpa using heap_alloc_new (w.alloc (.cells #[.int .i64 0, .map none, .slice none 0 0] 48)) _) rfl
  have hB : Below w.heap.size w W := by rw [hW]; exact (((Kp.refl (fun _ => False) w).alloc _).alloc _).none_below
  have HB := Aside0.mk hB
  go_enter Try.func6, Try.ntmps6
  go_wp2
  rw [← hW]
  clear hW hB
  go_loop [16] (fun v => ∃ k : Nat, k ≤ 2 ∧ v = .int .i64 k) (fun v => 2 - (intOf v).toNat)
  case atStart => exact ⟨0, by omega, rfl⟩
  case round =>
    obtain ⟨k, hk, rfl⟩ := hrel
    match k, hk with
    | 0, _ =>
      go_wp2_with (first
        | (go_at_call 15; refine (add_nil _ _).mono ?_; rintro e w' ⟨rfl, rfl⟩)
        | (go_at_call 17; refine (find_nil _ _).mono ?_; rintro e w' ⟨rfl, rfl⟩)
        | (go_at_call 13; refine (len_nil _).mono ?_; rintro e w' ⟨rfl, rfl⟩)
        | (go_at_call 19; refine (key_nil _ _).mono ?_; rintro e w' ⟨rfl, rfl⟩))
      go_round
      case rel => exact ⟨1, by omega, by go_num⟩
      case measure => simp [intOf]
    | 1, _ =>
      go_wp2_with (first
        | (go_at_call 15; refine (add_zero _ _ _ z1).mono ?_; rintro e w' ⟨rfl, rfl⟩)
        | (go_at_call 17; refine (find_zero _ _ _ z1).mono ?_; rintro e w' ⟨rfl, rfl⟩)
        | (go_at_call 13; refine (len_zero _ _ z1).mono ?_; rintro e w' ⟨rfl, rfl⟩)
        | (go_at_call 19; refine (key_zero _ _ _ z1).mono ?_; rintro e w' ⟨rfl, rfl⟩))
      go_round
      case rel => exact ⟨2, by omega, by go_num⟩
      case measure => simp [intOf]
    | 2, _ =>
      go_wp2_with (go_at_call 7; refine (awake_any _).mono ?_; rintro e w1 ⟨rfl, hb1⟩)
      go_ret
      exact ⟨rfl, HB.out.trans (hb1.mono HB.out.size)⟩

end Go.Proofs.Ytkjjkmipgpoijaa
