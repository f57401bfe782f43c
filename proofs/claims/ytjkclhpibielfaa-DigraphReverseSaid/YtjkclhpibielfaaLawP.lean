/- What the laws' walks share: the argument, the world. -/
import Derived.Test.YtjkclhpibielfaaFrJ
import Derived.Test.YtjkclhpibielfaaOpens
set_option linter.unusedVariables false
set_option linter.unusedSimpArgs false
namespace Go.Proofs.Ytjkclhpibielfaa
open Go.RowKit Go.Proofs.YtjkclhpibielfaaW.PrintWords Go.Proofs.Ytjkclhpibielfaa.PDigraphTells Mem

def fSuccs : Field := { name := "Succs", type := 22, offset := 0, embedded := false, tag := "", pkgPath := "", byteOffset := 0 }
def kGr : Kd (List (List Int)) := Kd.iso (Kd.slice 36 kG) (fun x : List (List Int) => x)
/-- What an argument's weights say about a graph. -/
structure big (G : List (List Int)) : Prop where
  len : G.length * 24 ≤ 140737488351232
  row : ∀ l ∈ G, l.length * 8 ≤ 140737488351232
theorem graph_op {H : Type} {enc : TypeId × Value → H} {W : World} : Opens.Op enc Try.prog W 24 kGr big :=
  (Opens.Op.struct (Opens.Fs.one (f := fSuccs) (Opens.Op.slice (B := 24) (Opens.Op.slice (B := 8) (Opens.Op.int Try.underlying3) Try.underlying36 (by kernel_rfl) (by kernel_rfl)) Try.underlying22 (by kernel_rfl) (by kernel_rfl)) (by kernel_rfl)) Try.underlying24 rfl (by kernel_rfl) (fun x : List (List Int) => x) (fun x => x) (fun _ => rfl)).imp
    (fun G h => ⟨h.1, fun l hl => (h.2 l hl).1⟩)
theorem big.short {G : List (List Int)} (h : big G) : short G := ⟨by have := h.len; omega, fun l hl => by have := h.row l hl; omega⟩
theorem big.edges {G : List (List Int)} (h : big G) (hl : G.length ≤ 60) : edges G < 4611686018427387904 := by
  have h1 := edges_le 17592186043904 G (fun l hl => by have := h.row l hl; omega)
  have h2 : G.length * 17592186043904 ≤ 60 * 17592186043904 := Nat.mul_le_mul_right _ hl
  omega
theorem graph_arg {cs : Array Value} {G : List (List Int)} {w : World} (h : kGr.K w G cs.toList) : ∃ A c, cs = #[.slice A G.length c] ∧ G.length ≤ c ∧ Kd.C kG w A G.length G := by
  obtain ⟨A, c, h1, h2, h3⟩ := h
  exact ⟨A, c, by have := congrArg List.toArray h1; simpa using this, h2, h3⟩
theorem small_le {G : List (List Int)} (h : smallB G = true) : G.length ≤ 60 ∧ edges G ≤ 300 := by
  unfold smallB at h
  simpa using h

theorem short_rev {G : List (List Int)} (h : G.length ≤ 60 ∧ edges G ≤ 300) : short (revL G) := by
  unfold revL
  split
  · refine ⟨by rw [List.length_map, nodes_len]; omega, fun l hl => ?_⟩
    obtain ⟨b, _, rfl⟩ := List.mem_map.1 hl
    have h1 := edges_take G G.length (Nat.le_refl _) b
    rw [List.take_length] at h1
    omega
  · exact ⟨by decide, fun l hl => by simp at hl⟩
theorem short_pred {G : List (List Int)} (h : G.length ≤ 60 ∧ edges G ≤ 300) : short (predL G) := by
  unfold predL
  split
  · refine ⟨by rw [List.length_map, nodes_len]; omega, fun l hl => ?_⟩
    obtain ⟨b, _, rfl⟩ := List.mem_map.1 hl
    have h1 := pvU_len G G.length b
    omega
  · exact ⟨by decide, fun l hl => by simp at hl⟩
theorem spath_len {G : List (List Int)} {a b : Int} {p : List Int} (h : spath G a b p) : p.length < 70000 := by
  rcases h with ⟨h1, h2, h3, r, hr, rfl⟩ | ⟨_, rfl⟩
  · unfold pathL
    split
    · simp
    · rw [Grf.path_len]
      have := Far_lt h1 hr h2
      omega
  · simp
theorem reach_len {G : List (List Int)} {a : Int} : (reachL G a).length ≤ G.length := by
  by_cases h : chk G = 0 ∧ isNode G a
  · rw [reachL_len h]; exact Nat.le_refl _
  · rw [reachL_nil h]; simp
/-- The law's world: its argument lies at gb, the graph's rows are there, and nothing below has changed. -/
structure Gw (w wi : World) (gb : Nat) (A : Option Addr) (c : Nat) (G : List (List Int)) : Prop where
  b : Below w.heap.size w wi
  C : Kd.C kG wi A G.length G
  g : wi.heap[gb]? = some (.cells #[.slice A G.length c] 24 (0, 0))
theorem Gw.start {w : World} {A : Option Addr} {c : Nat} {G : List (List Int)} (h : Kd.C kG w A G.length G) : Gw w (w.alloc (.cells #[.slice A G.length c] 24 (0, 0))) w.heap.size A c G :=
  ⟨below_alloc (Below.refl _ _) _, Kd.C_alloc h _, heap_alloc_new w _⟩
theorem Gw.step {w wi wj : World} {gb : Nat} {A : Option Addr} {c : Nat} {G : List (List Int)} (h : Gw w wi gb A c G) (hb : Below wi.heap.size wi wj) : Gw w wj gb A c G :=
  ⟨h.b.trans (hb.mono h.b.size), Kd.C_below h.C hb, (hb.block gb (blk_lt' h.g)).trans h.g⟩
theorem Gw.drewN {w wi : World} {gb : Nat} {A : Option Addr} {c : Nat} {G : List (List Int)} (h : Gw w wi gb A c G) (n : Nat) : Gw w (wi.drewN n) gb A c G :=
  h.step (pw_below_drewN (Below.refl _ _) _)
theorem Gw.cell {w wi : World} {gb : Nat} {A : Option Addr} {c : Nat} {G : List (List Int)} (h : Gw w wi gb A c G) : wi.cell? ⟨gb, 0, none⟩ = some (.slice A G.length c) := cell_at h.g rfl

end Go.Proofs.Ytjkclhpibielfaa
