/- The example of chapter 6. -/
import Derived.Test.YtjkclhpibielfaaFrH
set_option linter.unusedVariables false
set_option linter.unusedSimpArgs false
namespace Go.Proofs.Ytjkclhpibielfaa
open Go.RowKit Go.Proofs.YtjkclhpibielfaaW.PrintWords Go.Proofs.Ytjkclhpibielfaa.PDigraphTells Mem

theorem Ev.val {α : Type} {g : Nat → Option α} {r x : α} (h : Ev g r) (hm : ∀ k, LeO (g k) (g (k + 1))) (N : Nat) (hx : g N = some x) : x = r := by
  obtain ⟨K, hK⟩ := h
  have lift : ∀ d, g (N + d) = some x := by
    intro d
    induction d with
    | zero => exact hx
    | succ d ih => exact hm _ _ ih
  have h1 := lift K
  rw [hK (N + K) (by omega)] at h1
  exact (Option.some.inj h1).symm
def Dia : List (List Int) := [[2, 1], [3], [3], []]
theorem dia_chk : chk Dia = 0 := by decide
theorem dia_short : short Dia := ⟨by decide, by decide⟩
theorem dia_bad : chk [[1]] = 10 := by decide
theorem dia_long : chk (List.replicate 65537 []) = 11 := by
  unfold chk; rw [if_pos (by rw [List.length_replicate]; omega)]
theorem dia_post0 : post Dia 0 = [3, 2, 1, 0] := by
  have := Ev.val (rpost_f Dia dia_short 0) (fun k => burnishref06_Postorder.mono _ _ k) 60 (x := [3, 2, 1, 0]) (by decide +kernel)
  exact this.symm
theorem dia_post4 : post Dia 4 = [] := by unfold post; rw [if_neg (by decide)]
theorem dia_reach : reachL Dia 1 = [false, true, false, true] := by
  have := Ev.val (rreach_f Dia dia_short 1) (fun k => burnishref06_Reachable.mono _ _ k) 100 (x := [false, true, false, true]) (by decide +kernel)
  exact this.symm
theorem dia_path {p : List Int} (h : spath Dia 0 3 p) : p = [0, 1, 3] := by
  obtain ⟨p', hp', he⟩ := rpath_f Dia dia_short 0 3
  obtain rfl := h.uniq hp'
  exact (Ev.val he (fun k => burnishref06_ShortestPath.mono _ _ _ k) 100 (x := [0, 1, 3]) (by decide +kernel)).symm
theorem dia_path2 {p : List Int} (h : spath Dia 3 0 p) : p = [] := by
  obtain ⟨p', hp', he⟩ := rpath_f Dia dia_short 3 0
  obtain rfl := h.uniq hp'
  exact (Ev.val he (fun k => burnishref06_ShortestPath.mono _ _ _ k) 100 (x := []) (by decide +kernel)).symm
theorem dia_pred : predL Dia = [[], [0], [0], [1, 2]] := by decide +kernel
theorem dia_rev : revL Dia = [[], [0], [0], [1, 2]] := by decide +kernel
end Go.Proofs.Ytjkclhpibielfaa
