/- Small words on the machine's memory for the hand-made walks: a block's cells, and 'Kp S w w'': w' is w but for the blocks of S and new blocks. -/
import Derived.Test.YtjkclhpibielfaaWKept
import Derived.WalkSmall
import Derived.StillTail
import Derived.Deep.Draws
set_option linter.unusedVariables false
namespace Go.Proofs.Ytjkclhpibielfaa.Mem
open Go.RowKit Go.Proofs.YtjkclhpibielfaaW.PrintWords

theorem cell_at {w : World} {p j t : Nat} {cs : Array Value} {v : Value} (h : w.heap[p]? = some (.cells cs t (0, 0))) (hj : cs[j]? = some v) : w.cell? ⟨p, j, none⟩ = some v := by
  simp [World.cell?, h, hj]
theorem free_at {w : World} {p t : Nat} {cs : Array Value} (h : w.heap[p]? = some (.cells cs t (0, 0))) (j : Nat) : w.frozen? ⟨p, j, none⟩ = false := by
  simp [World.frozen?, h]
theorem blk_lt' {w : World} {p : Nat} {o : Obj} (h : w.heap[p]? = some o) : p < w.heap.size := (Array.getElem?_eq_some_iff.1 h).1

theorem set_at {w : World} {p j t : Nat} {cs : Array Value} {fr : Nat × Nat} (h : w.heap[p]? = some (.cells cs t fr)) (v : Value) : (w.setCell ⟨p, j, none⟩ v).heap[p]? = some (.cells (cs.setIfInBounds j v) t fr) := by
  simp [World.setCell, Array.getElem?_modify, h]

theorem still_tail {P : Program} {id : Nat} {Q : Exit → Act → World → Prop} {a : Act} {w : World} {l : List Oper} (n : Nat) (hm : P.follows .mixedOrders = true) (hB : Region.lexTailB .any l.toArray n = true)
    (h : wpStill P l.toArray w.drew (fun a' => wpList P l.toArray Q (l.drop n) a' w.drew) (l.take n) a) : (Code.region id l.toArray true).wp P Q a w := wp_region_still_tail n hm hB h

structure Kp (S : Nat → Prop) (w w' : World) : Prop where
  os : w'.os = w.os
  tape : w'.tape = w.tape
  output : w'.output = w.output
  kept : Kept w w' S

section
variable {S S2 S' : Nat → Prop} {w W W2 : World}
theorem Kp.size (h : Kp S w W) : w.heap.size ≤ W.heap.size := h.kept.1
theorem Kp.block (h : Kp S w W) {k : Nat} (hk : k < w.heap.size) (hn : ¬ S k) : W.heap[k]? = w.heap[k]? := h.kept.2 k hk hn
theorem Kp.refl (S : Nat → Prop) (w : World) : Kp S w w := ⟨rfl, rfl, rfl, Kept.refl _ _⟩
theorem Kp.of_below (h : Below w.heap.size w W) (S : Nat → Prop) : Kp S w W := ⟨h.os, h.tape, h.output, Kept.of_below h S⟩
theorem Kp.mono (h : Kp S w W) (hs : ∀ k, S k → S' k) : Kp S' w W := ⟨h.os, h.tape, h.output, h.kept.mono hs⟩
theorem Kp.then_ (h : Kp S w W) (k : Kp S2 W W2) (hs : ∀ k, S2 k → S k ∨ w.heap.size ≤ k) : Kp S w W2 :=
  ⟨k.os.trans h.os, k.tape.trans h.tape, k.output.trans h.output, h.kept.then_ k.kept hs⟩
theorem Kp.alloc (h : Kp S w W) (o : Obj) : Kp S w (W.alloc o) := ⟨h.os, h.tape, h.output, h.kept.alloc o⟩
theorem Kp.drew (h : Kp S w W) : Kp S w W.drew := ⟨h.os, h.tape, h.output, h.kept⟩
theorem Kp.drewN (h : Kp S w W) (m : Nat) : Kp S w (W.drewN m) := ⟨h.os, h.tape, h.output, h.kept⟩
theorem Kp.setCell (h : Kp S w W) {p : Addr} (hp : S p.block ∨ w.heap.size ≤ p.block) (u : Value) : Kp S w (W.setCell p u) := ⟨h.os, h.tape, h.output, h.kept.setCell hp u⟩
theorem Kp.grown {row : Option Nat} (h : Kp S w W) (hg : W.grownBy W2 row) (hr : ∀ k, row = some k → S k ∨ w.heap.size ≤ k) : Kp S w W2 :=
  ⟨hg.os.trans h.os, hg.tape.trans h.tape, hg.output.trans h.output, Kept.of_grown hg h.kept hr⟩
theorem Kp.below (h : Kp S w W) (hs : ∀ k, S k → w.heap.size ≤ k) : Below w.heap.size w W :=
  ⟨h.os, h.tape, h.output, h.size, fun k hk => h.block hk (fun h' => by have := hs k h'; omega)⟩
theorem Kp.belowB {B : Nat} (h : Kp S w W) (hs : ∀ k, S k → B ≤ k) (hB : B ≤ w.heap.size) : Below B w W :=
  ⟨h.os, h.tape, h.output, h.size, fun k hk => h.block (by omega) (fun h' => by have := hs k h'; omega)⟩
theorem Kp.none_below (h : Kp (fun _ => False) w W) : Below w.heap.size w W := h.below (fun _ hk => hk.elim)
theorem Kp.of_grownBy {row : Option Nat} (hg : w.grownBy W row) : Kp (fun k => row = some k) w W := (Kp.refl _ w).grown hg (fun k hk => .inl hk)
theorem Kp.blk {k : Nat} {o : Obj} (h : Kp S w W) (hb : w.heap[k]? = some o) (hn : ¬ S k) : W.heap[k]? = some o := (h.block (blk_lt' hb) hn).trans hb
end
end Go.Proofs.Ytjkclhpibielfaa.Mem
