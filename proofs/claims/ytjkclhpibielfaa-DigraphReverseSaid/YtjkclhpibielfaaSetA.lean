/- Package bitset: what a set's memory says, and the contracts of New, valid, Has, Add. -/
import Derived.Test.YtjkclhpibielfaaMem
import Derived.Test.YtjkclhpibielfaaRows
import Derived.Test.YtjkclhpibielfaaBitPure
import Derived.WalkKit
import Derived.WalkSpells
import Derived.WalkLawsBesides
import Derived.StillTailTactics
import Derived.Deep.QuietTactic
import Derived.BigQuiet
import Derived.Deep.RegionHeld3
import Derived.Deep.RegionLaw
import Derived.RegionTactic
set_option linter.unusedVariables false
set_option linter.unusedSimpArgs false
namespace Go.Proofs.Ytjkclhpibielfaa
open Go.RowKit Go.Proofs.YtjkclhpibielfaaW.PrintWords Mem Bit

theorem infoU64 : (Try.prog.info? 58).map (fun i => (i.zero, i.size, i.bytes)) = some (some (.int .u64 0), 1, 8) := by kernel_rfl

/-- A set of the program at block p: its elements are those places of bs that hold true. -/
structure BS (w : World) (ok : Nat → Prop) (p : Nat) (bs : List Bool) : Prop where
  ex : ∃ g cc, w.heap[p]? = some (.cells #[.bool true, .int .i64 bs.length, .slice (some ⟨g, 0, none⟩) (wds bs).length cc] 57 (0, 0)) ∧ ok p ∧
    Kd.R (Kd.int .u64) 58 w 0 (fun k => ok k ∧ k ≠ p) (.slice (some ⟨g, 0, none⟩) (wds bs).length cc) (wds bs) ∧ bs.length ≤ 65536

theorem BS.step {w w1 : World} {ok : Nat → Prop} {p : Nat} {bs : List Bool} (h : BS w ok p bs) (hm : ∀ k, ok k → k < w.heap.size → w1.heap[k]? = w.heap[k]?) : BS w1 ok p bs := by
  obtain ⟨g, cc, hp, okp, hR, hl⟩ := h.ex
  exact ⟨⟨g, cc, (hm p okp (blk_lt' hp)).trans hp, okp, Kd.R_step hR (fun k hk hlt => hm k hk.1 hlt), hl⟩⟩
theorem BS.mono {w : World} {ok ok' : Nat → Prop} {p : Nat} {bs : List Bool} (h : BS w ok p bs) (hm : ∀ k, ok k → ok' k) : BS w ok' p bs := by
  obtain ⟨g, cc, hp, okp, hR, hl⟩ := h.ex
  exact ⟨⟨g, cc, hp, hm _ okp, Kd.R_mono hR (fun k hk => ⟨hm k hk.1, hk.2⟩), hl⟩⟩
theorem BS.bound {w : World} {ok : Nat → Prop} {p : Nat} {bs : List Bool} (h : BS w ok p bs) : BS w (fun k => ok k ∧ k < w.heap.size) p bs := by
  obtain ⟨g, cc, hp, okp, hR, hl⟩ := h.ex
  exact ⟨⟨g, cc, hp, ⟨okp, blk_lt' hp⟩, Kd.R_mono (Kd.R_bound hR) (fun k hk => ⟨⟨hk.1.1, hk.2.2.1⟩, hk.1.2⟩), hl⟩⟩
theorem BS.drewN {w : World} {ok : Nat → Prop} {p : Nat} {bs : List Bool} (h : BS w ok p bs) (q : Nat) : BS (w.drewN q) ok p bs := h.step (fun k _ hk => rfl)
theorem BS.alloc {w : World} {ok : Nat → Prop} {p : Nat} {bs : List Bool} (h : BS w ok p bs) (o : Obj) : BS (w.alloc o) ok p bs := h.step (fun k _ hk => Below.heap_alloc w o k hk)
theorem BS.below {w W : World} {ok : Nat → Prop} {p : Nat} {bs : List Bool} (h : BS w ok p bs) (hb : Below w.heap.size w W) : BS W ok p bs := h.step (fun k _ hk => hb.block k hk)
theorem BS.kp {w W : World} {ok S : Nat → Prop} {p : Nat} {bs : List Bool} (h : BS w ok p bs) (hk : Kp S w W) (hd : ∀ k, ok k → ¬ S k) : BS W ok p bs := h.step (fun k ho hlt => hk.block hlt (hd k ho))

theorem wds_zero (n : Nat) : wds (List.replicate n false) = List.replicate ((n + 63) / 64) 0 := by
  apply List.ext_getElem?
  intro k
  by_cases hk : k < (n + 63) / 64
  · rw [wds_get _ _ (by simpa using hk)]
    have : wd (List.replicate n false) k = 0 := by
      refine eq_of_bits (wd_lt _ _) (by omega) (fun j hj => ?_)
      rw [wd_bit]
      by_cases h : 64 * k + j < n
      · simp [List.getD_eq_getElem?_getD, List.getElem?_replicate, h]
      · simp [List.getD_eq_getElem?_getD, List.getElem?_replicate, h]
    rw [this]
    simp [List.getElem?_replicate, hk]
  · rw [List.getElem?_eq_none (by simp [wds_length]; omega), List.getElem?_eq_none (by simp; omega)]

theorem valid_ok (p : Nat) (w : World) (c0 : w.cell? ⟨p, 0, none⟩ = some (.bool true)) :
    Calls Try.prog 38 #[.pointer (some ⟨p, 0, none⟩)] w fun e w' => e = .returned (.bool true) ∧ w = w' := by
  go_enter Try.func38, Try.ntmps38
  go_wp2
  go_ret
  exact ⟨rfl, rfl⟩
theorem valid_zero (p : Nat) (w : World) (c0 : w.cell? ⟨p, 0, none⟩ = some (.bool false)) :
    Calls Try.prog 38 #[.pointer (some ⟨p, 0, none⟩)] w fun e w' => e = .returned (.bool false) ∧ w = w' := by
  go_enter Try.func38, Try.ntmps38
  go_wp2
  go_ret
  exact ⟨rfl, rfl⟩
theorem valid_nil (w : World) : Calls Try.prog 38 #[.pointer none] w fun e w' => e = .returned (.bool false) ∧ w = w' := by
  go_enter Try.func38, Try.ntmps38
  go_wp2
  go_ret
  exact ⟨rfl, rfl⟩

theorem new_bad (n : Int) (w : World) (h : n < 0 ∨ 65536 < n) : Calls Try.prog 37 #[.int .i64 n] w fun e w' => e = .returned (.pointer none) ∧ w = w' := by
  by_cases h0 : n < 0
  · clear h
    go_enter Try.func37, Try.ntmps37
    go_wp2
    go_ret
    exact ⟨rfl, rfl⟩
  · have h1 : 65536 < n := by omega
    clear h
    go_enter Try.func37, Try.ntmps37
    go_wp2
    go_ret
    exact ⟨rfl, rfl⟩
theorem new_ok (n : Nat) (w : World) (h : n ≤ 65536) : Calls Try.prog 37 #[.int .i64 n] w fun e w' => ∃ p, e = .returned (.pointer (some ⟨p, 0, none⟩)) ∧
    BS w' (fun k => w.heap.size ≤ k) p (List.replicate n false) ∧ Kp (fun _ => False) w w' := by
  obtain ⟨m, hm⟩ : ∃ m, m = (n + 63) / 64 := ⟨_, rfl⟩
  have hmk := print_make (P := Try.prog) 55 58 .u64 8 Try.underlying55 infoU64 (by decide) m (by omega)
  have hd : ((n : Int) + 63) / 64 = (m : Int) := by omega
  have H : ∀ w : World, BS ((w.alloc (.cells (madeCells #[.int .u64 0] m) 58)).alloc (.cells #[.bool true, .int .i64 n, .slice (some ⟨w.heap.size, 0, none⟩) m m] 57)) (fun k => w.heap.size ≤ k) (w.heap.size + 1) (List.replicate n false) := by
    intro w
    have hw : wds (List.replicate n false) = List.replicate m 0 := by rw [wds_zero, hm]
    refine ⟨⟨w.heap.size, m, ?_, by simp, ?_, by simpa using h⟩⟩
    · rw [hw]; simpa using heap_alloc_new (w.alloc (.cells (madeCells #[.int .u64 0] m) 58)) (.cells #[.bool true, .int .i64 n, .slice (some ⟨w.heap.size, 0, none⟩) m m] 57)
    · rw [hw]
      refine Kd.R_alloc (Kd.R_of_own ?_ (fun k hk => ?_)) _
      · have h9 : (w.alloc (.cells (madeCells #[.int .u64 0] m) 58)).ownsRow 0 58 1 (.slice (some ⟨w.heap.size, 0, none⟩) m m) m (encs (Value.int .u64) (List.replicate m 0)) := own_made w 0 58 .u64 m (Nat.zero_le _) (by omega)
        simpa using h9
      · have : w.heap.size = k := by simpa [Value.ownBlock] using hk
        omega
  have H' := Aside0.mk H
  clear H hm
  go_enter Try.func37, Try.ntmps37
  go_wp2
  go_ret
  exact ⟨_, rfl, H'.out w, ((Kp.refl _ w).alloc _).alloc _⟩

/-- Has: no more than a look. -/
def hasB (bs : List Bool) (i : Int) : Bool := decide (0 ≤ i) && bs.getD i.toNat false
theorem has_nil (i : Int) (w : World) : Calls Try.prog 39 #[.pointer none, .int .i64 i] w fun e w' => e = .returned (.bool false) ∧ w = w' := by
  go_enter Try.func39, Try.ntmps39
  go_wp2_with (go_at_call 38; refine (valid_nil _).mono ?_; rintro e w' ⟨rfl, rfl⟩)
  go_ret
  exact ⟨rfl, rfl⟩
theorem has_zero (p : Nat) (i : Int) (w : World) (c0 : w.cell? ⟨p, 0, none⟩ = some (.bool false)) : Calls Try.prog 39 #[.pointer (some ⟨p, 0, none⟩), .int .i64 i] w fun e w' => e = .returned (.bool false) ∧ w = w' := by
  go_enter Try.func39, Try.ntmps39
  go_wp2_with (go_at_call 38; refine (valid_zero p _ c0).mono ?_; rintro e w' ⟨rfl, rfl⟩)
  go_ret
  exact ⟨rfl, rfl⟩
theorem has_out (p : Nat) (ok : Nat → Prop) (bs : List Bool) (i : Int) (w : World) (hB : BS w ok p bs) (hi : i < 0 ∨ (bs.length : Int) ≤ i) :
    Calls Try.prog 39 #[.pointer (some ⟨p, 0, none⟩), .int .i64 i] w fun e w' => e = .returned (.bool false) ∧ ∃ q, w' = w.drewN q := by
  obtain ⟨g, cc, hp, okp, hR, hl⟩ := hB.ex
  have c0 : w.cell? ⟨p, 0, none⟩ = some (.bool true) := cell_at hp rfl
  have c1 : w.cell? ⟨p, 1, none⟩ = some (.int .i64 bs.length) := cell_at hp rfl
  clear hp hR hB
  by_cases h0 : i < 0
  · clear hi
    go_enter Try.func39, Try.ntmps39
    go_wp2_with (go_at_call 38; refine (valid_ok p _ c0).mono ?_; rintro e w' ⟨rfl, rfl⟩)
    go_ret
    exact ⟨rfl, 0, rfl⟩
  · have h1 : (bs.length : Int) ≤ i := by omega
    have h2 : 0 ≤ i := by omega
    clear hi
    go_enter Try.func39, Try.ntmps39
    go_wp2_with (go_at_call 38; refine (valid_ok p _ c0).mono ?_; rintro e w' ⟨rfl, rfl⟩)
    go_ret
    exact ⟨rfl, 0, rfl⟩
end Go.Proofs.Ytjkclhpibielfaa
