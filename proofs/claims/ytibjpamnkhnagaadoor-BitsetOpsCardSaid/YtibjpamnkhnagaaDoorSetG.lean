/- Package bitset: All: the iterator's contract. -/
import Derived.RangeFuncNested
import Derived.RangeFuncBound
import Derived.RangeFuncCalls
import Derived.RangeFuncLeaves
import Derived.Shelf.Abstract
import Derived.Shelf.RegionOpen
import Derived.OwnWalkIn
import Derived.TacticsInMore
import Derived.LoopNIn
import Derived.LoopIn
import Derived.Laws.Bits64b
import Derived.Test.YtibjpamnkhnagaaDoorSetF
set_option linter.unusedVariables false
set_option linter.unusedSimpArgs false
namespace Go.Proofs.YtibjpamnkhnagaaDoor
open Go.RowKit Go.Shelf Go.Proofs.YtibjpamnkhnagaaDoorW.PrintWords Mem Bit
attribute [local go_sem] Oper.semAt_some

/-- math/bits.deBruijn64tab holds what its initialiser lays. -/
def DB (w : World) : Prop := ∀ j, j < 64 → w.cell? ⟨0, j, none⟩ = some (.int .u8 ((Lib.deBruijn64tab.getD j 0 : Nat) : Int))
theorem DB.kp {w W : World} {S : Nat → Prop} (h : DB w) (hk : Kp S w W) (hs : ¬ S 0) : DB W := fun j hj => by
  have h1 := h j hj
  have h2 := World.block_lt_of_cell? w ⟨0, j, none⟩ h1
  have h3 := hk.block h2 hs
  simp only [World.cell?, h3] at h1 ⊢
  exact h1
theorem DB.pos {w : World} (h : DB w) : 0 < w.heap.size := World.block_lt_of_cell? w ⟨0, 0, none⟩ (h 0 (by omega))
theorem DB.below {w W : World} (h : DB w) (hb : Below w.heap.size w W) : DB W := h.kp (Kp.of_below hb (fun _ => False)) (fun h => h)

theorem DB.belowN {n : Nat} {w W : World} (h : DB w) (hb : Below n w W) (hn : 0 < n) : DB W := fun j hj => (hb.cell (p := ⟨0, j, none⟩) hn).trans (h j hj)

theorem tz_key (x a : Nat) (hx : x < 18446744073709551616) (hx0 : x ≠ 0) (hlow : x &&& (18446744073709551616 - x) = a) :
    IntKind.u64.wrap (bits BinOp.and IntKind.u64 (x : Int) (IntKind.u64.wrap (-(x : Int))) * 285870213051353865) / 288230376151711744 = ((a * 285870213051353865 % 18446744073709551616 / 288230376151711744 : Nat) : Int) := by
  have e1 : IntKind.u64.wrap (-(x : Int)) = ((18446744073709551616 - x : Nat) : Int) := by rw [IntKind.wrap_u64]; omega
  rw [e1, bits_and_u64_nat x _ hx (by omega), hlow, IntKind.wrap_u64]
  omega
set_option maxHeartbeats 400000 in
theorem tz_core (x k idx : Nat) (w : World) (hx0 : ((x : Int) == 0) = false)
    (key : IntKind.u64.wrap (bits BinOp.and IntKind.u64 (x : Int) (IntKind.u64.wrap (-(x : Int))) * 285870213051353865) / 288230376151711744 = (idx : Int))
    (hi : idx < 64) (hk : k < 64) (hcell : w.cell? ⟨0, idx, none⟩ = some (.int .u8 k)) :
    Calls Tryd.prog 37 #[.int .u64 x] w fun e w' => e = .returned (.int .i64 k) ∧ w = w' := by
  go_enter Tryd.func37, Tryd.ntmps37
  go_wp2_with (simp only [key])
  go_ret
  exact ⟨rfl, rfl⟩
theorem tz_any (x c : Nat) (w : World) (hx : x < 18446744073709551616) (hx0 : x ≠ 0) (hT : DB w) (hc : Lib.ctz 64 x = c) :
    Calls Tryd.prog 37 #[.int .u64 x] w fun e w' => e = .returned (.int .i64 c) ∧ w = w' := by
  subst hc
  obtain ⟨hlow, hk⟩ := Lib.lowest_bit 64 x hx0 hx
  obtain ⟨hi, htab⟩ := Lib.deBruijn64_at _ hk
  have hcell := hT _ hi
  rw [htab] at hcell
  exact tz_core x _ _ w (by simp; omega) (tz_key x _ hx hx0 hlow) hi hk hcell

theorem all_calls (n : Nat) (v : Option Addr) (w : World) :
    CallsIn Fence.wide n Tryd.prog 14 #[.pointer v] w fun e w' => e = .returned (.func (.func 36) #[] #[.pointer (some ⟨w.heap.size, 0, none⟩)]) ∧ w' = w.alloc (.cells #[.pointer v] 24) := by
  refine callsIn_wide.2 ?_
  go_enter Tryd.func14, Tryd.ntmps14
  go_wp2
  go_ret
  exact ⟨rfl, rfl⟩
end Go.Proofs.YtibjpamnkhnagaaDoor
