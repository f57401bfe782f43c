import Derived.RangeFuncNested
import Derived.Stop.RegionWithIn
import Derived.Sort.LoopGhostIn
import Derived.RangeFuncBox
import Derived.RangeFuncLeaves
import Derived.Shelf.Abstract
import Derived.Test.YtbphjbfnnhfhlaaMPos11
section
/- A loop over an iterator that keeps a state of its own in a cell (a captured variable): the round and the loop's two forms. -/
set_option linter.unusedVariables false
namespace Go.Proofs.Ytbphjbfnnhfhlaa.RangeC
open Go.RowKit

/-- The blocks below n lie as they lay. -/
def Sm (n : Nat) (W W' : World) : Prop := ∀ k, k < n → W'.heap[k]? = W.heap[k]?
theorem Sm.refl (n : Nat) (W : World) : Sm n W W := fun _ _ => rfl
theorem Sm.trans {n : Nat} {A B C : World} (h : Sm n A B) (k : Sm n B C) : Sm n A C := fun j hj => (k j hj).trans (h j hj)
theorem Sm.put {n : Nat} (W : World) {l : Nat} (o : Obj) (h : n ≤ l) : Sm n W (W.putObj l o) := fun k hk => World.putObj_heap_other (by omega)
/-- A loop's record. -/
def rcd (fn : FuncId) (tmps : Array Value) (ps : Array Tmp) (assign body : Code) (dd : Nat) (st : LoopState) (pe : Option Code) : Loop :=
  { state := st, pending := pe, fn := fn, tmps := tmps, params := ps, assign := assign, body := body, defers := dd }
/-- How a round's body may end: it goes on, or it returns. -/
def Ends {α : Type} (base n₀ : Nat) (I Ix : List α → World → Prop) (gb : Bool) (xs : List α) (W : World) : Exit → Act → World → Prop
  | .normal, _, W3 => gb = true ∧ KeepsFrom base W W3 ∧ Sm n₀ W W3 ∧ I xs W3
  | .ret, _, W3 => gb = false ∧ KeepsFrom base W W3 ∧ Ix xs W3
  | _, _, _ => False

section
variable {F : Fence} {m : Nat} {P : Program} {α : Type} {base n₀ L dd : Nat} {fn : FuncId} {tmps : Array Value} {ps : Array Tmp} {assign body : Code} {encs : α → Array Value} {I Ix : List α → World → Prop} {Ax : List α → α → Act → World → Prop} {B : World → Prop}
/-- What the iterator meets when it calls for a round. -/
theorem round_c (hps : ∀ x, (encs x).size = ps.size) (hfn : F.fn fn) (hbL : base ≤ L) (hn : n₀ ≤ L) (hI : OwnFrom base I) (hIx : OwnFrom base Ix) (hAx : ∀ pre x a', OwnFrom base (fun (_ : Unit) W => Ax pre x a' W))
    (hB : ∀ X Y, KeepsFrom base X Y → B X → B Y) (hBL : ∀ X o, B X → B (X.putObj L o)) (pre : List α) (x : α) (gb : Bool) (W : World)
    (hasg : ∀ K : Act → World → Prop, (∀ a' W', KeepsFrom base W W' → Sm n₀ W W' → Ax pre x a' W' → K a' W') →
      assign.wpIn (F.inRound L) m P (Exit.then K (fun _ _ _ => False)) { tmps := (ps.zip (encs x)).foldl (fun t (p, v) => t.setIfInBounds p v) tmps, defers := [] } W)
    (hbody : ∀ a' W, (∃ r, W.heap[L]? = some (.loop r)) → Ax pre x a' W → body.wpIn (F.inRound L) m P (Ends base n₀ I Ix gb (pre ++ [x]) W) a' W)
    (hl : W.heap[L]? = some (.loop (rcd fn tmps ps assign body dd .ready none))) (hb : B W) :
    YieldAt F m P L (encs x) W fun e W' => e = .returned (.bool gb) ∧ (gb = true → (I (pre ++ [x]) W' ∧ W'.heap[L]? = some (.loop (rcd fn tmps ps assign body dd .ready none)) ∧ B W') ∧ Sm n₀ W W') ∧
      (gb = false → Ix (pre ++ [x]) W' ∧ W'.heap[L]? = some (.loop (rcd fn tmps ps assign body dd .done (some .ret))) ∧ B W') := by
  have hy := run_yield (P := P) (args := encs x) hl (hps x)
  refine ⟨fn, _, assign, body, hy, roundIn_of_wpIn hfn (hasg _ fun a' Wa hka hsa hax => ?_)⟩
  have hla := hka.same L _ hbL hl rfl
  have hba := hB _ _ hka hb
  refine ⟨_, run_beginRound hla rfl, ?_⟩
  obtain ⟨rb, hrb⟩ : ∃ rb : Loop, rb = { rcd fn tmps ps assign body dd .ready none with state := .busy } := ⟨_, rfl⟩
  rw [← hrb]
  have hlt : L < Wa.heap.size := (Array.getElem?_eq_some_iff.1 hla).1
  have hl2 : (Wa.putObj L (.loop rb)).heap[L]? = some (.loop rb) := World.putObj_heap_same hlt
  refine wpIn_mono (hbody a' _ ⟨_, hl2⟩ ((hAx pre x a').putObj (s := ()) _ hax hbL hla rfl)) fun e a3 W3 hp => ?_
  have hfin : ∀ jump, KeepsFrom base (Wa.putObj L (.loop rb)) W3 → (Instr.endRound L jump).run P W3 = .ok (.bool jump.isNone) (W3.putObj L (.loop (rcd fn tmps ps assign body dd (if jump.isNone then .ready else .done) jump))) ∧
      W3.heap[L]? = some (.loop rb) ∧ (W3.putObj L (.loop (rcd fn tmps ps assign body dd (if jump.isNone then .ready else .done) jump))).heap[L]? = some (.loop (rcd fn tmps ps assign body dd (if jump.isNone then .ready else .done) jump)) ∧
      B (W3.putObj L (.loop (rcd fn tmps ps assign body dd (if jump.isNone then .ready else .done) jump))) := by
    intro jump hk
    have h3 := hk.same L _ hbL hl2 rfl
    have h4 := run_endRound (P := P) jump h3
    rw [hrb] at h4
    exact ⟨h4, h3, World.putObj_heap_same (Array.getElem?_eq_some_iff.1 h3).1, hBL _ _ (hB _ _ hk (hBL _ _ hba))⟩
  cases e with
  | normal =>
    obtain ⟨rfl, hk, hs, hi⟩ := hp
    obtain ⟨h1, h2, h3, h4⟩ := hfin none hk
    exact ⟨_, _, h1, rfl, fun _ => ⟨⟨hI.putObj _ hi hbL h2 rfl, h3, h4⟩, ((hsa.trans (Sm.put _ _ hn)).trans hs).trans (Sm.put _ _ hn)⟩, fun h => (by cases h)⟩
  | ret =>
    obtain ⟨rfl, hk, hi⟩ := hp
    obtain ⟨h1, h2, h3, h4⟩ := hfin (some .ret) hk
    exact ⟨_, _, h1, rfl, fun h => (by cases h), fun _ => ⟨hIx.putObj _ hi hbL h2 rfl, h3, h4⟩⟩
  | exit id => exact hp.elim
  | goto t => exact hp.elim
  | panic ch => exact hp.elim
  | outgrown => exact hp.elim
end

/-- The contract of an iterator that writes the cell bn: it hands on xs, up to the first element at which the caller stops it. -/
def IterC {α : Type} (F : Fence) (n : Nat) (P : Program) (g : Nat) (lb : Array Value) (encs : α → Array Value) (n₀ bn : Nat) (xs : List α) (w : World) : Prop :=
  ∀ (l : Nat) (go : α → Bool) (J Jx : List α → World → Prop) (W : World), Sm n₀ w W → AbidesFrom W.heap.size J → AbidesFrom W.heap.size Jx → (∀ pre X u, J pre X → J pre (X.setCell ⟨bn, 0, none⟩ u)) →
    (∀ pre x W1, J pre W1 → (∃ rest, xs = pre ++ x :: rest) → YieldAt F (n - 1) P l (encs x) W1 fun e W' =>
      e = .returned (.bool (go x)) ∧ (go x = true → J (pre ++ [x]) W' ∧ Sm n₀ W1 W') ∧ (go x = false → Jx (pre ++ [x]) W')) →
    J [] W →
    CallsIn F n P g (#[.func (.yield l) #[] #[]] ++ lb) W fun e W' => (∃ v, e = .returned v) ∧ (((∀ x ∈ xs, go x = true) ∧ J xs W') ∨ ∃ pre x, (∃ rest, xs = pre ++ x :: rest) ∧ (∀ y ∈ pre, go y = true) ∧ go x = false ∧ Jx (pre ++ [x]) W')

section
variable {F : Fence} {n : Nat} {P : Program} {α : Type} {n₀ bn : Nat} {g : Operand} {ps : Array Tmp} {assign body : Code} {Q : Exit → Act → World → Prop} {a : Act} {w : World} {gf : Nat} {lb : Array Value} {encs : α → Array Value} {xs : List α}
theorem keep_set {base : Nat} {X : World} {k : Nat} {u : Value} {j : Nat} (hj : j ≠ k) : (X.setCell ⟨k, 0, none⟩ u).heap[j]? = X.heap[j]? := Below.heap_setCell X ⟨k, 0, none⟩ u j (fun e => hj e)
/-- The loop, outside of any round. -/
theorem range_c (hro : F.round = none) (h1 : 1 ≤ n) (hg : a.eval g = .func (.func gf) #[] lb) (hFg : F.fn gf) (eg : ∀ args w, (callFunc gf args).run P w = .ok (.enter gf args) w)
    (hseq : IterC F (n - 1) P gf lb encs n₀ bn xs w) (go : α → Bool) (hn0 : n₀ ≤ w.heap.size) (hbn : bn < n₀) (hps : ∀ x, (encs x).size = ps.size)
    (I Ix : List α → World → Prop) (hI : OwnFrom w.heap.size I) (hIx : OwnFrom w.heap.size Ix) (hIb : ∀ pre X u, I pre X → I pre (X.setCell ⟨bn, 0, none⟩ u)) (h0 : I [] w)
    (Ax : List α → α → Act → World → Prop) (hAx : ∀ pre x a', OwnFrom w.heap.size (fun (_ : Unit) W => Ax pre x a' W))
    (hasg : ∀ (l : Nat) (pre : List α) (x : α) (W : World) (K : Act → World → Prop), I pre W → (∃ rest, xs = pre ++ x :: rest) → (∀ a' W', KeepsFrom w.heap.size W W' → Sm n₀ W W' → Ax pre x a' W' → K a' W') →
      assign.wpIn (F.inRound l) (n - 1 - 1) P (Exit.then K (fun _ _ _ => False)) { tmps := (ps.zip (encs x)).foldl (fun t (p, v) => t.setIfInBounds p v) a.tmps, defers := [] } W)
    (hbody : ∀ (l : Nat) (pre : List α) (x : α) (a' : Act) (W : World), w.heap.size ≤ l → (∃ r, W.heap[l]? = some (.loop r)) → (∃ rest, xs = pre ++ x :: rest) → Ax pre x a' W → body.wpIn (F.inRound l) (n - 1 - 1) P (Ends w.heap.size n₀ I Ix (go x) (pre ++ [x]) W) a' W)
    (hdone : ∀ (D : Nat) (W : World), w.heap.size ≤ D → (∀ x ∈ xs, go x = true) → I xs W → W.heap[D]? = some (.deferred (some [])) → Q .normal { a with defers := { target := .collected D, args := #[] } :: a.defers } W)
    (hstop : ∀ (D : Nat) (pre : List α) (x : α) (W : World), w.heap.size ≤ D → (∃ rest, xs = pre ++ x :: rest) → (∀ y ∈ pre, go y = true) → go x = false → Ix (pre ++ [x]) W → W.heap[D]? = some (.deferred (some [])) → Code.ret.wpIn F n P Q { a with defers := { target := .collected D, args := #[] } :: a.defers } W) :
    (Code.rangeFunc g ps assign body).wpIn F n P Q a w := by
  refine wpIn_rangeFunc fun fn hfn => ?_
  rw [hro]
  obtain ⟨rec, hrec⟩ : ∃ rec, rec = rcd fn a.tmps ps assign body w.heap.size := ⟨_, rfl⟩
  obtain ⟨W1, hW1⟩ : ∃ W1, W1 = (w.alloc (.deferred (some []))).alloc (.loop (rec .ready none)) := ⟨_, rfl⟩
  have s1 : W1.heap.size = w.heap.size + 1 + 1 := by rw [hW1]; simp
  have hl1 : W1.heap[w.heap.size + 1]? = some (.loop (rec .ready none)) := by
    have h := World.alloc_heap_new (w.alloc (.deferred (some []))) (.loop (rec .ready none))
    rw [World.size_alloc] at h
    rw [hW1]; exact h
  have hd1 : W1.heap[w.heap.size]? = some (.deferred (some [])) := by rw [hW1]; exact (Below.heap_alloc _ _ _ (by simp)).trans (World.alloc_heap_new w _)
  have hsm : Sm n₀ w W1 := fun k hk => by rw [hW1]; exact (Below.heap_alloc _ _ _ (by simp; omega)).trans (Below.heap_alloc _ _ _ (by omega))
  have hfar : ∀ {A : World} {row : Option Nat}, (∀ r, row = some r → W1.heap.size ≤ r ∧ ∃ o : Obj, A.heap[r]? = some o ∧ o.isWalk = true) → ∀ r, row = some r → w.heap.size ≤ r ∧ ∃ o : Obj, A.heap[r]? = some o ∧ o.isCells = false := fun hr r e => by
    obtain ⟨h2, o, ho, hw⟩ := hr r e
    exact ⟨by omega, o, ho, Obj.not_cells_of_walk hw⟩
  refine ⟨w.heap.size + 1, [{ target := .collected w.heap.size, args := #[] }], W1, { target := .fn (.func gf) lb, args := #[.func (.yield (w.heap.size + 1)) #[] #[]] }, W1, gf, #[.func (.yield (w.heap.size + 1)) #[] #[]] ++ lb, W1, ?_, ?_, ?_, ?_, fun _ => h1, ?_⟩
  · rw [hW1, hrec]; exact run_enterLoop_outer _ _ _ _ _
  · simp only [resolve, hg]
    simp [go_sem]
  · intro f' hf'
    simp [Target.leads] at hf'
    subst hf'
    exact hFg
  · simp [invoke, go_sem, eg]
  have hdl : w.heap.size ≠ bn ∧ w.heap.size + 1 ≠ bn := by omega
  refine (hseq (w.heap.size + 1) go (fun pre W => I pre W ∧ W.heap[w.heap.size + 1]? = some (.loop (rec .ready none)) ∧ W.heap[w.heap.size]? = some (.deferred (some [])))
    (fun pre W => Ix pre W ∧ W.heap[w.heap.size + 1]? = some (.loop (rec .done (some .ret))) ∧ W.heap[w.heap.size]? = some (.deferred (some []))) W1 hsm ?_ ?_ ?_ ?_ ⟨?_, hl1, hd1⟩).mono ?_
  · exact fun s A B row hs hgr hr => ⟨hI s A B row hs.1 hgr (hfar hr), (grownBy_keeps hgr (fun r e => (hr r e).2) hs.2.1 rfl).trans hs.2.1, (grownBy_keeps hgr (fun r e => (hr r e).2) hs.2.2 rfl).trans hs.2.2⟩
  · exact fun s A B row hs hgr hr => ⟨hIx s A B row hs.1 hgr (hfar hr), (grownBy_keeps hgr (fun r e => (hr r e).2) hs.2.1 rfl).trans hs.2.1, (grownBy_keeps hgr (fun r e => (hr r e).2) hs.2.2 rfl).trans hs.2.2⟩
  · exact fun pre X u hs => ⟨hIb pre X u hs.1, (keep_set (base := 0) hdl.2).trans hs.2.1, (keep_set (base := 0) hdl.1).trans hs.2.2⟩
  · rintro pre x W ⟨hi, hl, hk⟩ hx
    rw [hrec] at hl ⊢
    exact round_c (B := fun W => W.heap[w.heap.size]? = some (.deferred (some []))) hps hfn (Nat.le_succ _) (by omega) hI hIx hAx (fun X Y h2 h3 => h2.same _ _ (Nat.le_refl _) h3 rfl) (fun X o h2 => (World.putObj_heap_other (by omega)).trans h2) pre x (go x) W
      (fun K hK => hasg _ pre x W K hi hx hK) (fun a' W hr hax => hbody _ pre x a' W (by omega) hr hx hax) hl hk
  · rw [hW1]; exact hI.alloc _ (hI.alloc _ h0)
  · rintro e W2 ⟨⟨v, rfl⟩, ⟨hall, hi, hl, hk⟩ | ⟨pre, x, hpre, hgo, hx, hi, hl, hk⟩⟩
    · refine ⟨none, _, by have h := run_endLoop (P := P) hl (by rw [hrec]; simp [rcd]); rw [hrec] at h; exact h, ?_⟩
      exact hdone _ _ (Nat.le_refl _) hall (hI.putObj _ hi (by omega) hl rfl) ((World.putObj_heap_other (by omega)).trans hk)
    · refine ⟨some .ret, _, by have h := run_endLoop (P := P) hl (by rw [hrec]; simp [rcd]); rw [hrec] at h; exact h, ?_⟩
      exact hstop _ pre x _ (Nat.le_refl _) hpre hgo hx (hIx.putObj _ hi (by omega) hl rfl) ((World.putObj_heap_other (by omega)).trans hk)
/-- The loop, within a round of the loop l₀. -/
theorem range_in {l₀ : Nat} {r₀ : Loop} (hro : F.round = some l₀) (hl₀ : w.heap[l₀]? = some (.loop r₀)) (h1 : 1 ≤ n) (hg : a.eval g = .func (.func gf) #[] lb) (hFg : F.fn gf) (eg : ∀ args w, (callFunc gf args).run P w = .ok (.enter gf args) w)
    (hseq : IterC F (n - 1) P gf lb encs n₀ bn xs w) (go : α → Bool) (hn0 : n₀ ≤ w.heap.size) (hbn : bn < n₀) (hps : ∀ x, (encs x).size = ps.size)
    (I Ix : List α → World → Prop) (hI : OwnFrom w.heap.size I) (hIx : OwnFrom w.heap.size Ix) (hIb : ∀ pre X u, I pre X → I pre (X.setCell ⟨bn, 0, none⟩ u)) (h0 : I [] w)
    (Ax : List α → α → Act → World → Prop) (hAx : ∀ pre x a', OwnFrom w.heap.size (fun (_ : Unit) W => Ax pre x a' W))
    (hasg : ∀ (l : Nat) (pre : List α) (x : α) (W : World) (K : Act → World → Prop), I pre W → (∃ rest, xs = pre ++ x :: rest) → (∀ a' W', KeepsFrom w.heap.size W W' → Sm n₀ W W' → Ax pre x a' W' → K a' W') →
      assign.wpIn (F.inRound l) (n - 1 - 1) P (Exit.then K (fun _ _ _ => False)) { tmps := (ps.zip (encs x)).foldl (fun t (p, v) => t.setIfInBounds p v) a.tmps, defers := [] } W)
    (hbody : ∀ (l : Nat) (pre : List α) (x : α) (a' : Act) (W : World), w.heap.size ≤ l → (∃ r, W.heap[l]? = some (.loop r)) → (∃ rest, xs = pre ++ x :: rest) → Ax pre x a' W → body.wpIn (F.inRound l) (n - 1 - 1) P (Ends w.heap.size n₀ I Ix (go x) (pre ++ [x]) W) a' W)
    (hdone : ∀ (W : World), (∀ x ∈ xs, go x = true) → I xs W → Q .normal a W)
    (hstop : ∀ (pre : List α) (x : α) (W : World), (∃ rest, xs = pre ++ x :: rest) → (∀ y ∈ pre, go y = true) → go x = false → Ix (pre ++ [x]) W → Code.ret.wpIn F n P Q a W) :
    (Code.rangeFunc g ps assign body).wpIn F n P Q a w := by
  refine wpIn_rangeFunc fun fn hfn => ?_
  rw [hro]
  obtain ⟨rec, hrec⟩ : ∃ rec, rec = rcd fn a.tmps ps assign body r₀.defers := ⟨_, rfl⟩
  obtain ⟨W1, hW1⟩ : ∃ W1, W1 = w.alloc (.loop (rec .ready none)) := ⟨_, rfl⟩
  have s1 : W1.heap.size = w.heap.size + 1 := by rw [hW1]; simp
  have hl1 : W1.heap[w.heap.size]? = some (.loop (rec .ready none)) := by rw [hW1]; exact World.alloc_heap_new w _
  have hsm : Sm n₀ w W1 := fun k hk => by rw [hW1]; exact Below.heap_alloc _ _ _ (by omega)
  have hfar : ∀ {A : World} {row : Option Nat}, (∀ r, row = some r → W1.heap.size ≤ r ∧ ∃ o : Obj, A.heap[r]? = some o ∧ o.isWalk = true) → ∀ r, row = some r → w.heap.size ≤ r ∧ ∃ o : Obj, A.heap[r]? = some o ∧ o.isCells = false := fun hr r e => by
    obtain ⟨h2, o, ho, hw⟩ := hr r e
    exact ⟨by omega, o, ho, Obj.not_cells_of_walk hw⟩
  refine ⟨w.heap.size, [], W1, { target := .fn (.func gf) lb, args := #[.func (.yield w.heap.size) #[] #[]] }, W1, gf, #[.func (.yield w.heap.size) #[] #[]] ++ lb, W1, ?_, ?_, ?_, ?_, fun _ => h1, ?_⟩
  · rw [hW1, hrec]; exact run_enterLoop_inner hl₀ _ _ _ _ _
  · simp only [resolve, hg]
    simp [go_sem]
  · intro f' hf'
    simp [Target.leads] at hf'
    subst hf'
    exact hFg
  · simp [invoke, go_sem, eg]
  have hdl : w.heap.size ≠ bn := by omega
  refine (hseq w.heap.size go (fun pre W => I pre W ∧ W.heap[w.heap.size]? = some (.loop (rec .ready none)) ∧ True)
    (fun pre W => Ix pre W ∧ W.heap[w.heap.size]? = some (.loop (rec .done (some .ret))) ∧ True) W1 hsm ?_ ?_ ?_ ?_ ⟨?_, hl1, trivial⟩).mono ?_
  · exact fun s A B row hs hgr hr => ⟨hI s A B row hs.1 hgr (hfar hr), (grownBy_keeps hgr (fun r e => (hr r e).2) hs.2.1 rfl).trans hs.2.1, trivial⟩
  · exact fun s A B row hs hgr hr => ⟨hIx s A B row hs.1 hgr (hfar hr), (grownBy_keeps hgr (fun r e => (hr r e).2) hs.2.1 rfl).trans hs.2.1, trivial⟩
  · exact fun pre X u hs => ⟨hIb pre X u hs.1, (keep_set (base := 0) hdl).trans hs.2.1, trivial⟩
  · rintro pre x W ⟨hi, hl, _⟩ hx
    rw [hrec] at hl ⊢
    exact round_c (B := fun _ => True) hps hfn (Nat.le_refl _) hn0 hI hIx hAx (fun _ _ _ h => h) (fun _ _ h => h) pre x (go x) W
      (fun K hK => hasg _ pre x W K hi hx hK) (fun a' W hr hax => hbody _ pre x a' W (Nat.le_refl _) hr hx hax) hl trivial
  · rw [hW1]; exact hI.alloc _ h0
  · rintro e W2 ⟨⟨v, rfl⟩, ⟨hall, hi, hl, hk⟩ | ⟨pre, x, hpre, hgo, hx, hi, hl, hk⟩⟩
    · refine ⟨none, _, by have h := run_endLoop (P := P) hl (by rw [hrec]; simp [rcd]); rw [hrec] at h; exact h, ?_⟩
      exact hdone _ hall (hI.putObj _ hi (Nat.le_refl _) hl rfl)
    · refine ⟨some .ret, _, by have h := run_endLoop (P := P) hl (by rw [hrec]; simp [rcd]); rw [hrec] at h; exact h, ?_⟩
      exact hstop pre x _ hpre hgo hx (hIx.putObj _ hi (Nat.le_refl _) hl rfl)
end
end Go.Proofs.Ytbphjbfnnhfhlaa.RangeC
end

section
/- The iterator of domtree.up: its contract. -/
set_option linter.unusedVariables false
set_option linter.unusedSimpArgs false
set_option linter.unusedSectionVars false
namespace Go.Proofs.Ytbphjbfnnhfhlaa
open Go.RowKit Go.Proofs.YtbphjbfnnhfhlaaW.PrintWords Go.Proofs.Ytbphjbfnnhfhlaa.PDigraphTells Mem
attribute [local go_sem] Oper.semAt_some

/-- The way up from x, k steps. -/
def ups (l : List Int) : Nat → Int → List Int
  | 0, x => [x]
  | k + 1, x => x :: ups l k (rd l x)
/-- The j-th on the way up. -/
def upAt (l : List Int) : Nat → Int → Int
  | 0, x => x
  | j + 1, x => upAt l j (rd l x)
theorem ups_len (l : List Int) : ∀ k x, (ups l k x).length = k + 1
  | 0, _ => rfl
  | k + 1, x => by rw [ups, List.length_cons, ups_len]
theorem ups_get (l : List Int) : ∀ (k j : Nat) (x : Int), j ≤ k → (ups l k x)[j]? = some (upAt l j x)
  | 0, j, x, h => by
    obtain rfl : j = 0 := by omega
    rfl
  | k + 1, 0, x, _ => rfl
  | k + 1, j + 1, x, h => by
    rw [ups, List.getElem?_cons_succ, ups_get l k j _ (by omega)]
    rfl
theorem upAt_succ (l : List Int) : ∀ (j : Nat) (x : Int), upAt l (j + 1) x = rd l (upAt l j x)
  | 0, _ => rfl
  | j + 1, x => by rw [upAt, upAt_succ l j]; rfl
theorem up_at {l : List Int} : ∀ (k j : Nat) (x : Int), Up l x k → j ≤ k → Up l (upAt l j x) (k - j)
  | k, 0, x, h, _ => h
  | 0, j + 1, x, h, hj => by omega
  | k + 1, j + 1, x, h, hj => by
    cases h with
    | step _ _ u =>
      have := up_at k j _ u (by omega)
      rw [show k + 1 - (j + 1) = k - j by omega]
      exact this
theorem up_root {l : List Int} {x : Int} {k : Nat} (h : Up l x k) : (rd l x = x ↔ k = 0) := by
  cases h with
  | root _ e => exact ⟨fun _ => rfl, fun _ => e⟩
  | step _ e _ => exact ⟨fun h => absurd h e, fun h => by omega⟩
theorem cell_blk {w W : World} {a : Addr} (h : W.heap[a.block]? = w.heap[a.block]?) : W.cell? a = w.cell? a := by simp [World.cell?, h]
theorem add_blk (a : Addr) (k : Nat) : (a.add k).block = a.block := by unfold Addr.add; split <;> rfl
/-- What the iterator reads: the list l and the box of its start. -/
structure Ib (w : World) (n₀ bn bi N : Nat) (A : Option Addr) (c : Nat) (l : List Int) (b : Int) : Prop where
  hn : w.heap[bn]? = some (.cells #[.int .i64 b] 3 (0, 0))
  hi : w.heap[bi]? = some (.cells #[.slice A N c] 28 (0, 0))
  hl : ∀ x : Int, 0 ≤ x → x < N → ∃ ad, A = some ad ∧ w.cell? (ad.add x.toNat) = some (.int .i64 (rd l x)) ∧ ad.block < n₀ ∧ ad.block ≠ bn
  ne : bi ≠ bn
  lt : bi < n₀
  lt2 : bn < n₀
  ll : l.length = N
/-- Between two rounds: the box holds the j-th on the way up. -/
structure It (w W : World) (n₀ bn : Nat) (y : Int) : Prop where
  bx : W.heap[bn]? = some (.cells #[.int .i64 y] 3 (0, 0))
  sm : ∀ k, k < n₀ → k ≠ bn → W.heap[k]? = w.heap[k]?

set_option maxRecDepth 100000 in
set_option maxHeartbeats 2000000 in
theorem up_iter (n : Nat) (hn : 2 ≤ n) (n₀ bn bi N : Nat) (A : Option Addr) (c : Nat) (l : List Int) (b : Int) (k : Nat) (w : World) (hw : Ib w n₀ bn bi N A c l b) (hk : Up l b k) :
    RangeC.IterC Fence.wide n Try.prog 49 #[.pointer (some ⟨bn, 0, none⟩), .pointer (some ⟨bi, 0, none⟩)] (fun x : Int => #[Value.int .i64 x]) n₀ bn (ups l k b) w := by
  intro L go J Jx W hs hJ hJx hst hY h0
  have hX := Aside0.mk (And.intro hw (And.intro hk (And.intro hJ (And.intro hJx (And.intro hst hY)))))
  have hI0 : Aside0 (It w W n₀ bn (upAt l 0 b) ∧ J ((ups l k b).take 0) W ∧ ∀ x ∈ (ups l k b).take 0, go x = true) := ⟨⟨(hs bn hw.lt2).trans hw.hn, fun j h1 _ => hs j h1⟩, h0, by simp⟩
  clear hs hJ hJx hst hY h0 hw hk
  refine callsIn_of_wp Try.func49 rfl trivial ?_ rfl
  simp only [Try.ntmps49, List.size_toArray, List.length_cons, List.length_nil, Nat.reduceAdd, Nat.reduceSub, Array.replicate_succ, Array.replicate_zero, List.push_toArray, List.append_toArray, List.nil_append, List.cons_append]
  gi_wp2_with fail
  gi_loopg [] k (fun q wi => ∃ j : Nat, j + q = k ∧ Aside0 (It w wi n₀ bn (upAt l j b) ∧ J ((ups l k b).take j) wi ∧ ∀ x ∈ (ups l k b).take j, go x = true))
  case atStart => exact ⟨0, by omega, hI0⟩
  case round =>
    obtain ⟨j, hj, hI⟩ := hrel
    have hjk : j ≤ k := by omega
    obtain ⟨y, hy⟩ : ∃ y, upAt l j b = y := ⟨_, rfl⟩
    have hup := up_at k j b hX.out.2.1 hjk
    rw [hy] at hI hup
    have hyx := hup.idx
    have hy0 := hyx.1
    have hy1 : y < N := by have := hyx.2; rw [hX.out.1.ll] at this; exact this
    have q1 : wr.cell? ⟨bn, 0, none⟩ = some (.int .i64 y) := cell_at hI.out.1.bx rfl
    have hsplit : ∃ rest, ups l k b = (ups l k b).take j ++ y :: rest := by
      have h1 : j < (ups l k b).length := by rw [ups_len]; omega
      have h2 := ups_get l k j b hjk
      rw [hy, List.getElem?_eq_getElem h1] at h2
      refine ⟨(ups l k b).drop (j + 1), ?_⟩
      rw [← Option.some.inj h2, ← List.drop_eq_getElem_cons h1, List.take_append_drop]
    have hYs := Aside0.mk (fun q => hX.out.2.2.2.2.2 ((ups l k b).take j) y (wr.drewN q) (hX.out.2.2.1 _ wr (wr.drewN q) none hI.out.2.1 ⟨rfl, rfl, rfl, Nat.le_refl _, fun _ _ _ => rfl⟩ (fun r e => by cases e)) hsplit)
    obtain ⟨ad, eA, z1, z2, z3⟩ := hX.out.1.hl y hy0 hy1
    subst eA
    have hY1 : YieldAt Fence.wide (n - 1) Try.prog L #[.int .i64 y] wr.drew fun e W' => e = .returned (.bool (go y)) ∧ (go y = true → J ((ups l k b).take j ++ [y]) W' ∧ RangeC.Sm n₀ wr W') ∧ (go y = false → Jx ((ups l k b).take j ++ [y]) W') := hYs.out 1
    obtain ⟨fn, tmps, assign, body, hyy, hR⟩ := hY1
    have hR := Aside0.mk hR
    have hzb := Aside0.mk (fun (W : World) (h : It w W n₀ bn y) => (cell_blk (w := w) (W := W) (a := ad.add y.toNat) (by rw [add_blk]; exact h.sm _ z2 z3)).trans z1)
    have hZ := Aside0.mk (And.intro hup hsplit)
    have hMk := Aside0.mk (fun (W3 : World) (hk3 : RangeC.Sm n₀ wr W3) => show It w W3 n₀ bn y from ⟨(hk3 bn hX.out.1.lt2).trans hI.out.1.bx, fun i h1 h2 => (hk3 i h1).trans (hI.out.1.sm i h1 h2)⟩)
    clear hup hyx hsplit hYs z1 z2 z3
    have hsn : Aside0 ((ups l k b).take (j + 1) = (ups l k b).take j ++ [y]) := ⟨by
      have h1 : j < (ups l k b).length := by rw [ups_len]; omega
      have h2 := ups_get l k j b hjk
      rw [hy, List.getElem?_eq_getElem h1] at h2
      rw [List.take_succ_eq_append_getElem h1, Option.some.inj h2]⟩
    have hy' := Aside0.mk hy
    clear hy
    gi_wp2_with fail
    by_cases hgo : go y = true
    · have hall : Aside0 (∀ x ∈ (ups l k b).take (j + 1), go x = true) := ⟨fun x hx => by
        rw [hsn.out, List.mem_append] at hx
        rcases hx with hx | hx
        · exact hI.out.2.2 x hx
        · rw [List.mem_singleton.1 hx]; exact hgo⟩
      rw [hgo] at hR
      have hR2 : Aside0 (RoundIn Fence.wide (n - 1) Try.prog L fn tmps assign body wr.drew fun e W' => e = .returned (.bool true) ∧ J ((ups l k b).take (j + 1)) W' ∧ RangeC.Sm n₀ wr W') := ⟨hR.out.mono fun e W' h => ⟨h.1, by rw [hsn.out]; exact h.2.1 rfl⟩⟩
      clear hR hgo
      by_cases hroot : rd l y = y
      · have hjk2 : Aside0 (j = k) := ⟨by have := (up_root hZ.out.1).1 hroot; omega⟩
        have hp := hroot
        have e1 : (y != y) = false := by simp
        clear hroot
        gi_region_with (
          (refine ⟨(fun _ => by omega), hR2.out.mono ?_⟩
           rintro e W3 ⟨rfl, hJ3, hk3⟩
           have H3 := Aside0.mk (And.intro (hMk.out W3 hk3) hJ3)
           have r1 : W3.cell? ⟨bn, 0, none⟩ = some (.int .i64 y) := cell_at H3.out.1.bx rfl
           have f1 : W3.frozen? ⟨bn, 0, none⟩ = false := free_at H3.out.1.bx 0
           have r2 : W3.cell? ⟨bi, 0, none⟩ = some (.slice (some ad) N c) := cell_at ((H3.out.1.sm bi hX.out.1.lt hX.out.1.ne).trans hX.out.1.hi) rfl
           have r3 := hzb.out W3 H3.out.1
           rw [hp] at r3
           clear hJ3 hk3))
        all_goals
          have hF : Aside0 ((∀ x ∈ ups l k b, go x = true) ∧ J (ups l k b) W3) := ⟨by
            have h1 := hall.out
            have h2 := H3.out.2
            rw [hjk2.out, List.take_of_length_le (by rw [ups_len]; exact Nat.le_refl _)] at h1 h2
            exact ⟨h1, h2⟩⟩
          clear r1 r2 r3 f1 H3
          gi_wp2
          go_end0
          exact ⟨⟨_, rfl⟩, .inl hF.out⟩
      · have hjk2 : j < k := by
          have h1 := up_root hZ.out.1
          have h2 : ¬ k - j = 0 := fun h3 => hroot (h1.2 h3)
          omega
        obtain ⟨gk1, rfl⟩ : ∃ q, gk = q + 1 := ⟨gk - 1, by omega⟩
        have hj1 : j + 1 + gk1 = k := by omega
        have hgk1 : gk1 < gk1 + 1 := by omega
        have hnx : Aside0 (upAt l (j + 1) b = rd l y) := ⟨by rw [upAt_succ, hy'.out]⟩
        obtain ⟨p, hp⟩ : ∃ p, rd l y = p := ⟨_, rfl⟩
        rw [hp] at hnx hroot
        have e1 : (p != y) = true := by simpa using hroot
        clear hroot hjk2
        gi_region_with (
          (refine ⟨(fun _ => by omega), hR2.out.mono ?_⟩
           rintro e W3 ⟨rfl, hJ3, hk3⟩
           have H3 := Aside0.mk (And.intro (hMk.out W3 hk3) hJ3)
           have r1 : W3.cell? ⟨bn, 0, none⟩ = some (.int .i64 y) := cell_at H3.out.1.bx rfl
           have f1 : W3.frozen? ⟨bn, 0, none⟩ = false := free_at H3.out.1.bx 0
           have r2 : W3.cell? ⟨bi, 0, none⟩ = some (.slice (some ad) N c) := cell_at ((H3.out.1.sm bi hX.out.1.lt hX.out.1.ne).trans hX.out.1.hi) rfl
           have r3 := hzb.out W3 H3.out.1
           rw [hp] at r3
           clear hJ3 hk3))
        all_goals
          have hI2 : Aside0 (It w (W3.setCell ⟨bn, 0, none⟩ (.int .i64 p)) n₀ bn (upAt l (j + 1) b) ∧ J ((ups l k b).take (j + 1)) (W3.setCell ⟨bn, 0, none⟩ (.int .i64 p)) ∧ ∀ x ∈ (ups l k b).take (j + 1), go x = true) := ⟨⟨by
              rw [hnx.out]
              have := set_at (j := 0) H3.out.1.bx (.int .i64 p)
              simpa using this, fun i h1 h2 => (RangeC.keep_set (base := 0) h2).trans (H3.out.1.sm i h1 h2)⟩, hX.out.2.2.2.2.1 _ _ _ H3.out.2, hall.out⟩
          clear H3 hp
          gi_wp2_with fail
          gi_roundg gk1
          case rel => exact ⟨j + 1, hj1, hI2⟩
          case measure => exact hgk1
    · have hgf : go y = false := by simpa using hgo
      have hall : Aside0 (∀ x ∈ (ups l k b).take j, go x = true) := ⟨hI.out.2.2⟩
      have hN := Aside0.mk hgf
      rw [hgf] at hR
      have hR2 : Aside0 (RoundIn Fence.wide (n - 1) Try.prog L fn tmps assign body wr.drew fun e W' => e = .returned (.bool false) ∧ Jx ((ups l k b).take j ++ [y]) W') := ⟨hR.out.mono fun e W' h => ⟨h.1, h.2.2 rfl⟩⟩
      clear hR hgo hgf
      gi_region_with (
        (refine ⟨(fun _ => by omega), hR2.out.mono ?_⟩
         rintro e W3 ⟨rfl, hJ3⟩
         have H3 := Aside0.mk hJ3
         clear hJ3))
      all_goals
        have hF : Aside0 (∃ pre x, (∃ rest, ups l k b = pre ++ x :: rest) ∧ (∀ y ∈ pre, go y = true) ∧ go x = false ∧ Jx (pre ++ [x]) W3) := ⟨(ups l k b).take j, y, hZ.out.2, hall.out, hN.out, H3.out⟩
        clear H3
        gi_wp2
        go_end0
        exact ⟨⟨_, rfl⟩, .inr hF.out⟩
end Go.Proofs.Ytbphjbfnnhfhlaa
end

section
/- domtree.up and Dominates. -/
set_option linter.unusedVariables false
set_option linter.unusedSimpArgs false
set_option linter.unusedSectionVars false
namespace Go.Proofs.Ytbphjbfnnhfhlaa
open Go.RowKit Go.Shelf Go.Proofs.YtbphjbfnnhfhlaaW.PrintWords Go.Proofs.Ytbphjbfnnhfhlaa.PDigraphTells Mem
attribute [local go_sem] Oper.semAt_some

set_option maxRecDepth 100000 in
theorem up_any (A : Option Addr) (n c : Nat) (b : Int) (w : World) :
    Calls Try.prog 40 #[.slice A n c, .int .i64 b] w fun e w' => e = .returned (.func (.func 49) #[] #[.pointer (some ⟨w.heap.size + 1, 0, none⟩), .pointer (some ⟨w.heap.size, 0, none⟩)]) ∧ w' = (w.alloc (.cells #[.slice A n c] 28)).alloc (.cells #[.int .i64 b] 3) := by
  go_enter Try.func40, Try.ntmps40
  go_wp2
  go_ret
  exact ⟨rfl, rfl⟩

/-- Both are nodes of the tree. -/
def InT (l : List Int) (a b : Int) : Prop := Tree l ∧ idx l a ∧ idx l b ∧ rd l a ≠ -1 ∧ rd l b ≠ -1
/-- What Dominates answers. -/
def DQ (l : List Int) (a b : Int) (w : World) (e : Ending) (w' : World) : Prop := ∃ r, e = .returned (.bool r) ∧ (r = true ↔ InT l a b ∧ On l a b) ∧ Below w.heap.size w w'
theorem DQ.no {l : List Int} {a b : Int} {w w' : World} (h : ¬ InT l a b) (hb : Below w.heap.size w w') : DQ l a b w (.returned (.bool false)) w' := ⟨false, rfl, ⟨fun h => (by cases h), fun h2 => absurd h2.1 h⟩, hb⟩

theorem on_ups {l : List Int} {a : Int} : ∀ (k : Nat) (b : Int), Up l b k → (On l a b ↔ a ∈ ups l k b) := by
  intro k
  induction k with
  | zero =>
    intro b hu
    cases hu with
    | root h e =>
      rw [ups, List.mem_singleton]
      constructor
      · intro o
        cases o with
        | refl => rfl
        | step _ e2 _ => exact absurd e e2
      · rintro rfl; exact .refl
  | succ k ih =>
    intro b hu
    cases hu with
    | step h e u =>
      rw [ups, List.mem_cons, ← ih _ u]
      constructor
      · intro o
        cases o with
        | refl => exact .inl rfl
        | step _ _ o2 => exact .inr o2
      · rintro (rfl | o)
        · exact .refl
        · exact .step h e o
theorem frame_abs {P : Program} {code : Code} {Q : Exit → Act → World → Prop} {a : Act} {w : World} (h : ∀ a', a' = a → Code.wp P code Q a' w) : Code.wp P code Q a w := h a rfl
/-- What up has laid. -/
theorem ib_of {w w2 : World} {A : Option Addr} {c : Nat} {l : List Int} (b : Int) (hC : Kd.C (Kd.int .i64) w A l.length l) (hb : Below w.heap.size w w2) :
    Ib ((w2.alloc (.cells #[.slice A l.length c] 28)).alloc (.cells #[.int .i64 b] 3)) (w2.heap.size + 2) (w2.heap.size + 1) w2.heap.size l.length A c l b := by
  have h1 := heap_alloc_new (w2.alloc (.cells #[.slice A l.length c] 28)) (.cells #[.int .i64 b] 3)
  rw [World.size_alloc] at h1
  have h2 : Below w2.heap.size w2 ((w2.alloc (.cells #[.slice A l.length c] 28)).alloc (.cells #[.int .i64 b] 3)) := below_alloc (below_alloc (Below.refl _ _) _) _
  refine ⟨h1, ((below_alloc (Below.refl _ (w2.alloc _)) _).block _ (by simp)).trans (heap_alloc_new w2 _), fun x h3 h4 => ?_, by omega, by omega, by omega, rfl⟩
  obtain ⟨ad, eA, hc⟩ := Kd.at_int hC x h3 h4
  have hlt := World.block_lt_of_cell? w _ hc
  rw [add_blk] at hlt
  have s := hb.size
  refine ⟨ad, eA, ?_, by omega, by omega⟩
  have hc2 := (hb.cell (p := ad.add x.toNat) (by rw [add_blk]; exact hlt)).trans hc
  exact (h2.cell (p := ad.add x.toNat) (by rw [add_blk]; omega)).trans hc2

end Go.Proofs.Ytbphjbfnnhfhlaa
end

section
/- CommonDominator. -/
set_option linter.unusedVariables false
set_option linter.unusedSimpArgs false
set_option linter.unusedSectionVars false
namespace Go.Proofs.Ytbphjbfnnhfhlaa
open Go.RowKit Go.Proofs.YtbphjbfnnhfhlaaW.PrintWords Go.Proofs.Ytbphjbfnnhfhlaa.PDigraphTells Mem
attribute [local go_sem] Oper.semAt_some

/-- r is the lowest that lies above both. -/
def Low (l : List Int) (a b r : Int) : Prop := On l r a ∧ On l r b ∧ ∀ x, On l x a → On l x b → On l x r
/-- What CommonDominator answers. -/
def CQ (l : List Int) (a b : Int) (w : World) (e : Ending) (w' : World) : Prop := ∃ r, e = .returned (.int .i64 r) ∧ ((InT l a b ∧ Low l a b r) ∨ (¬ InT l a b ∧ r = -1)) ∧ Below w.heap.size w w'
theorem CQ.no {l : List Int} {a b : Int} {w w' : World} (h : ¬ InT l a b) (hb : Below w.heap.size w w') : CQ l a b w (.returned (.int .i64 (-1))) w' := ⟨-1, rfl, .inr ⟨h, rfl⟩, hb⟩
theorem ups_tail {l : List Int} : ∀ (k : Nat) (a : Int) (pre : List Int) (r : Int) (rest : List Int), Up l a k → ups l k a = pre ++ r :: rest → ∀ x ∈ r :: rest, On l x r := by
  intro k
  induction k with
  | zero =>
    intro a pre r rest hu he x hx
    rw [ups] at he
    cases pre with
    | nil =>
      injection he with h1 h2
      subst h1 h2
      rw [List.mem_singleton.1 hx]
      exact .refl
    | cons p pre => rw [List.cons_append] at he; injection he with _ h2; cases pre <;> cases h2
  | succ k ih =>
    intro a pre r rest hu he x hx
    cases pre with
    | nil =>
      rw [List.nil_append] at he
      have h1 : r = a := by rw [ups] at he; injection he with h1 _; exact h1.symm
      subst h1
      rw [← he] at hx
      exact (on_ups (k + 1) _ hu).2 hx
    | cons p pre =>
      rw [ups, List.cons_append] at he
      injection he with _ h2
      cases hu with
      | step _ _ u => exact ih _ pre r rest u h2 x hx
theorem root_uniq {l : List Int} (h : roots l l.length = 1) {x y : Int} (hx : idx l x) (ex : rd l x = x) (hy : idx l y) (ey : rd l y = y) : x = y := by
  have key : ∀ (n : Nat), (∀ i : Nat, i < n → rd l (i : Int) ≠ (i : Int)) → roots l n = 0 := by
    intro n
    induction n with
    | zero => intro _; rfl
    | succ n ih =>
      intro hn
      rw [roots_succ, ih (fun i hi => hn i (by omega)), if_neg (hn n (by omega))]
  have mono : ∀ (n d : Nat), roots l n ≤ roots l (n + d) := by
    intro n d
    induction d with
    | zero => exact Nat.le_refl _
    | succ d ih => rw [← Nat.add_assoc, roots_succ]; omega
  have two : ∀ (i j : Nat), i < j → j < l.length → rd l (i : Int) = (i : Int) → rd l (j : Int) = (j : Int) → False := by
    intro i j hij hj hi2 hj2
    have h1 := roots_succ l i
    rw [if_pos hi2] at h1
    have h2 := roots_succ l j
    rw [if_pos hj2] at h2
    have h3 := mono (i + 1) (j - (i + 1))
    rw [show i + 1 + (j - (i + 1)) = j by omega] at h3
    have h4 := mono (j + 1) (l.length - (j + 1))
    rw [show j + 1 + (l.length - (j + 1)) = l.length by omega] at h4
    omega
  unfold idx at hx hy
  have e1 : x = (x.toNat : Int) := (Int.toNat_of_nonneg hx.1).symm
  have e2 : y = (y.toNat : Int) := (Int.toNat_of_nonneg hy.1).symm
  rcases Nat.lt_trichotomy x.toNat y.toNat with h1 | h1 | h1
  · exact (two _ _ h1 (by omega) (by rw [← e1]; exact ex) (by rw [← e2]; exact ey)).elim
  · omega
  · exact (two _ _ h1 (by omega) (by rw [← e2]; exact ey) (by rw [← e1]; exact ex)).elim
theorem up_top {l : List Int} {x : Int} {k : Nat} (h : Up l x k) : ∃ r, idx l r ∧ rd l r = r ∧ r ∈ ups l k x := by
  induction h with
  | @root x h e => exact ⟨x, h, e, by simp [ups]⟩
  | step h e u ih =>
    obtain ⟨r, h1, h2, h3⟩ := ih
    exact ⟨r, h1, h2, by rw [ups]; exact List.mem_cons_of_mem _ h3⟩
theorem low_of {l : List Int} {a b : Int} {ka kb : Nat} (ha : Up l a ka) (hb : Up l b kb) {pre : List Int} {r : Int} {rest : List Int} (he : ups l ka a = pre ++ r :: rest) (hpre : ∀ y ∈ pre, y ∉ ups l kb b) (hr : r ∈ ups l kb b) : Low l a b r := by
  refine ⟨(on_ups ka a ha).2 (by rw [he]; simp), (on_ups kb b hb).2 hr, fun x h1 h2 => ?_⟩
  have h3 := (on_ups ka a ha).1 h1
  have h4 := (on_ups kb b hb).1 h2
  rw [he, List.mem_append] at h3
  rcases h3 with h3 | h3
  · exact absurd h4 (hpre x h3)
  · exact ups_tail ka a pre r rest ha he x h3

/-- CommonDominator's own variables. -/
structure Cb (w wi : World) (pi pb pr : Nat) (A : Option Addr) (n c : Nat) (b : Int) : Prop where
  hi : Boxed wi pi 28 (.slice A n c)
  hb : Boxed wi pb 3 (.int .i64 b)
  hr : Boxed wi pr 3 (.int .i64 0)
  bw : Below w.heap.size w wi
  o1 : w.heap.size ≤ pi
  o2 : pi < pb
  o3 : pb < pr
theorem Cb.start (w : World) (A : Option Addr) (n c : Nat) (b : Int) : Cb w (((w.alloc (.cells #[.slice A n c] 28)).alloc (.cells #[.int .i64 b] 3)).alloc (.cells #[.int .i64 0] 3)) w.heap.size (w.heap.size + 1) (w.heap.size + 1 + 1) A n c b := by
  have h1 := Boxed.new w 28 (.slice A n c)
  have h2 := Boxed.new (w.alloc (.cells #[.slice A n c] 28)) 3 (.int .i64 b)
  have h3 := Boxed.new ((w.alloc (.cells #[.slice A n c] 28)).alloc (.cells #[.int .i64 b] 3)) 3 (.int .i64 0)
  rw [World.size_alloc] at h2
  rw [World.size_alloc, World.size_alloc] at h3
  exact ⟨(h1.alloc _).alloc _, h2.alloc _, h3, below_alloc (below_alloc (below_alloc (Below.refl _ _) _) _) _, Nat.le_refl _, by omega, by omega⟩
theorem Cb.step {w wi wj : World} {pi pb pr : Nat} {A : Option Addr} {n c : Nat} {b : Int} (h : Cb w wi pi pb pr A n c b) (hB : Below wi.heap.size wi wj) : Cb w wj pi pb pr A n c b :=
  ⟨(hB.block _ h.hi.lt).trans h.hi, (hB.block _ h.hb.lt).trans h.hb, (hB.block _ h.hr.lt).trans h.hr, h.bw.trans (hB.mono h.bw.size), h.o1, h.o2, h.o3⟩

set_option maxRecDepth 100000 in
set_option maxHeartbeats 2000000 in
theorem common_no (A : Option Addr) (c : Nat) (l : List Int) (a b : Int) (w : World) (hC : Kd.C (Kd.int .i64) w A l.length l) (hc : l.length ≤ c) (hl : l.length ≤ 70) (h : ¬ InT l a b) :
    Calls Try.prog 22 #[.slice A l.length c, .int .i64 a, .int .i64 b] w (CQ l a b w) := by
  have hX := Aside0.mk (And.intro hC (And.intro hc (And.intro hl h)))
  clear hC hc hl h
  go_enter Try.func22, Try.ntmps22
  go_upto_region 1 with (fail)
  obtain ⟨w1, hw1⟩ : ∃ w1, w1 = ((w.alloc (.cells #[.slice A l.length c] 28)).alloc (.cells #[.int .i64 b] 3)).alloc (.cells #[.int .i64 0] 3) := ⟨_, rfl⟩
  obtain ⟨pi, hpi⟩ : ∃ pi, pi = w.heap.size := ⟨_, rfl⟩
  obtain ⟨pb, hpb⟩ : ∃ pb, pb = w.heap.size + 1 := ⟨_, rfl⟩
  obtain ⟨pr, hpr⟩ : ∃ pr, pr = w.heap.size + 1 + 1 := ⟨_, rfl⟩
  have hB := Aside0.mk (Cb.start w A l.length c b)
  rw [← hpr, ← hpb, ← hpi, ← hw1] at hB ⊢
  clear hw1 hpi hpb hpr
  have q0 := hB.out.hi.cell
  go_wp2_with fail
  clear q0
  refine (depths_any A c l _ (Kd.C_below hX.out.1 hB.out.bw) hX.out.2.1 hX.out.2.2.1).mono ?_
  rintro e' w2 ⟨v, bo, rfl, hyes, hno, B2⟩
  have h2 := Aside0.mk (hB.out.step B2)
  have q0 := h2.out.hi.cell
  have q1 := h2.out.hb.cell
  have q2 := h2.out.hr.cell
  have q3 := h2.out.hr.frozen
  have hF := Aside0.mk (show CQ l a b w (.returned (.int .i64 (-1))) (w2.setCell ⟨pr, 0, none⟩ (.int .i64 (-1))) from CQ.no hX.out.2.2.2 (h2.out.bw.setCell (p := ⟨pr, 0, none⟩) (by have := h2.out.o1; have := h2.out.o2; have := h2.out.o3; show w.heap.size ≤ pr; omega) _))
  have q4 : (w2.setCell ⟨pr, 0, none⟩ (.int .i64 (-1))).cell? ⟨pr, 0, none⟩ = some (.int .i64 (-1)) := World.cell?_setCell_same' _ _ _ (by rw [q2]; rfl)
  cases bo
  · clear hyes hno B2
    go_wp2
    exact bodyPost_ret (v := .int .i64 (-1)) (by simp [results, Try.results22, go_sem, q4]) rfl hF.out
  · obtain ⟨hT, d, hR, hd⟩ := hyes rfl
    obtain ⟨Ad, cd, ev, hx, Cx⟩ := Kd.R_reads hR
    rw [hd.len] at ev Cx
    subst ev
    have hD := Aside0.mk (And.intro hT (And.intro hd Cx))
    clear hyes hno B2 hR hd Cx hx hT
    by_cases ha0 : a < 0
    · go_wp2
      exact bodyPost_ret (v := .int .i64 (-1)) (by simp [results, Try.results22, go_sem, q4]) rfl hF.out
    by_cases ha1 : (l.length : Int) ≤ a
    · go_wp2
      exact bodyPost_ret (v := .int .i64 (-1)) (by simp [results, Try.results22, go_sem, q4]) rfl hF.out
    by_cases hb0 : b < 0
    · go_wp2
      exact bodyPost_ret (v := .int .i64 (-1)) (by simp [results, Try.results22, go_sem, q4]) rfl hF.out
    by_cases hb1 : (l.length : Int) ≤ b
    · go_wp2
      exact bodyPost_ret (v := .int .i64 (-1)) (by simp [results, Try.results22, go_sem, q4]) rfl hF.out
    obtain ⟨la, eA, z1⟩ := Kd.at_int hD.out.2.2 a (by omega) (by omega)
    subst eA
    have hia : Aside0 (idx l a ∧ idx l b) := ⟨⟨by omega, by omega⟩, ⟨by omega, by omega⟩⟩
    by_cases hda : rd l a = -1
    · rw [hD.out.2.1.out a hia.out.1 hda] at z1
      clear hda
      go_wp2
      exact bodyPost_ret (v := .int .i64 (-1)) (by simp [results, Try.results22, go_sem, q4]) rfl hF.out
    obtain ⟨ka, hka, _⟩ := hD.out.2.1.at_ a hia.out.1 hda
    rw [hka] at z1
    obtain ⟨la', eA', z2⟩ := Kd.at_int hD.out.2.2 b (by omega) (by omega)
    injection eA' with eA'
    subst eA'
    by_cases hdb : rd l b = -1
    · rw [hD.out.2.1.out b hia.out.2 hdb] at z2
      clear hda hka hdb
      go_wp2
      exact bodyPost_ret (v := .int .i64 (-1)) (by simp [results, Try.results22, go_sem, q4]) rfl hF.out
    · exact absurd ⟨hD.out.1, hia.out.1, hia.out.2, hda, hdb⟩ hX.out.2.2.2

/-- Within the outer loop: the variables, and how far the memory reaches. -/
structure Co (w wi : World) (pi pb pr : Nat) (A : Option Addr) (n c : Nat) (b : Int) (N : Nat) : Prop where
  cb : Cb w wi pi pb pr A n c b
  sz : N ≤ wi.heap.size
theorem cb_own {β : Type} {w : World} {pi pb pr : Nat} {A : Option Addr} {n c : Nat} {b : Int} {B : Nat} (hB : w.heap.size ≤ B) : OwnFrom B (fun (_ : β) W => Cb w W pi pb pr A n c b) := by
  intro s X Y row hs hg hr
  have hne : ∀ {p t : Nat} {v : Value}, Boxed X p t v → some p ≠ row := fun {p t v} h e => by
    obtain ⟨_, o, ho, hc⟩ := hr p e.symm
    rw [show X.heap[p]? = _ from h] at ho
    cases ho
    cases hc
  exact ⟨hs.hi.kept hg (hne hs.hi), hs.hb.kept hg (hne hs.hb), hs.hr.kept hg (hne hs.hr), hs.bw.grown hg hs.bw.size (fun k e => Nat.le_trans hB (hr k e).1), hs.o1, hs.o2, hs.o3⟩
theorem co_own {β : Type} {w : World} {pi pb pr : Nat} {A : Option Addr} {n c : Nat} {b : Int} {N B : Nat} (hB : w.heap.size ≤ B) : OwnFrom B (fun (_ : β) W => Co w W pi pb pr A n c b N) :=
  fun s X Y row hs hg hr => ⟨cb_own hB s X Y row hs.cb hg hr, Nat.le_trans hs.sz hg.size⟩
theorem Co.set {w X : World} {pi pb pr : Nat} {A : Option Addr} {n c : Nat} {b : Int} {N : Nat} (h : Co w X pi pb pr A n c b N) (k : Nat) (u : Value) (hk : pr < k) : Co w (X.setCell ⟨k, 0, none⟩ u) pi pb pr A n c b N := by
  have h1 := h.cb.o1; have h2 := h.cb.o2; have h3 := h.cb.o3
  exact ⟨⟨h.cb.hi.other (by omega) u, h.cb.hb.other (by omega) u, h.cb.hr.other (by omega) u, h.cb.bw.setCell (p := ⟨k, 0, none⟩) (by show w.heap.size ≤ k; omega) _, h1, h2, h3⟩, by simpa using h.sz⟩
theorem Co.new {w X : World} {pi pb pr : Nat} {A : Option Addr} {n c : Nat} {b : Int} {N : Nat} (h : Co w X pi pb pr A n c b N) (o : Obj) : Co w (X.alloc o) pi pb pr A n c b N :=
  ⟨h.cb.step (below_alloc (Below.refl _ _) _), by rw [World.size_alloc]; have := h.sz; omega⟩
theorem keep_own {β : Type} {B B' : Nat} {w₀ : World} (hB : w₀.heap.size ≤ B') : OwnFrom B' (fun (_ : β) W => KeepsFrom B w₀ W) := ownFrom_keepsFrom hB
theorem sm_own {β : Type} {n B' : Nat} {w₀ : World} (hn : n ≤ w₀.heap.size) (hB : n ≤ B') : OwnFrom B' (fun (_ : β) W => RangeC.Sm n w₀ W ∧ w₀.heap.size ≤ W.heap.size) :=
  fun s X Y row hs hg hr => ⟨fun k hk => (hg.block k (by have := hs.2; omega) (fun e => by have := (hr k e.symm).1; omega)).trans (hs.1 k hk), Nat.le_trans hs.2 hg.size⟩
/-- The result is written: it is the last of what came. -/
def Fin (w : World) (pr : Nat) (xs : List Int) (W : World) : Prop := ∃ ys x, xs = ys ++ [x] ∧ Boxed W pr 3 (.int .i64 x) ∧ Below w.heap.size w W
theorem fin_own {w : World} {pr B : Nat} (hB : w.heap.size ≤ B) : OwnFrom B (Fin w pr) := by
  rintro s X Y row ⟨ys, x, e, h1, h2⟩ hg hr
  refine ⟨ys, x, e, h1.kept hg (fun e2 => ?_), h2.grown hg h2.size (fun k e => Nat.le_trans hB (hr k e).1)⟩
  obtain ⟨_, o, ho, hc⟩ := hr pr e2.symm
  rw [show X.heap[pr]? = _ from h1] at ho
  cases ho
  cases hc
/-- The outer round's frame: its variable is boxed at q. -/
def Ox (tm : Array Value) (w : World) (pi pb pr : Nat) (A : Option Addr) (n c : Nat) (b : Int) (N : Nat) (x : Int) (a : Act) (W : World) : Prop :=
  ∃ q, a = { tmps := (tm.setIfInBounds 55 (.int .i64 x)).setIfInBounds 9 (.pointer (some ⟨q, 0, none⟩)), defers := [] } ∧ N ≤ q ∧ Boxed W q 3 (.int .i64 x) ∧ Co w W pi pb pr A n c b N
theorem ox_own {tm : Array Value} {w : World} {pi pb pr : Nat} {A : Option Addr} {n c : Nat} {b : Int} {N B : Nat} (hB : w.heap.size ≤ B) (x : Int) (a : Act) : OwnFrom B (fun (_ : Unit) W => Ox tm w pi pb pr A n c b N x a W) := by
  rintro s X Y row ⟨q, e, h0, h1, h2⟩ hg hr
  refine ⟨q, e, h0, h1.kept hg (fun e2 => ?_), co_own hB s X Y row h2 hg hr⟩
  obtain ⟨_, o, ho, hc⟩ := hr q e2.symm
  rw [show X.heap[q]? = _ from h1] at ho
  cases ho
  cases hc

theorem frame_absI {F : Fence} {n : Nat} {P : Program} {code : Code} {Q : Exit → Act → World → Prop} {a : Act} {w : World} (h : ∀ a', a' = a → code.wpIn F n P Q a' w) : code.wpIn F n P Q a w := h a rfl

set_option maxRecDepth 100000 in
set_option maxHeartbeats 4000000 in
theorem common_yes (A : Option Addr) (c : Nat) (l : List Int) (a b : Int) (w : World) (hC : Kd.C (Kd.int .i64) w A l.length l) (hc : l.length ≤ c) (hl : l.length ≤ 70) (h : InT l a b) :
    Calls Try.prog 22 #[.slice A l.length c, .int .i64 a, .int .i64 b] w (CQ l a b w) := by
  have hX := Aside0.mk (And.intro hC (And.intro hc (And.intro hl h)))
  have a0 : 0 ≤ a := h.2.1.1
  have a1 : a < (l.length : Int) := h.2.1.2
  have b0 : 0 ≤ b := h.2.2.1.1
  have b1 : b < (l.length : Int) := h.2.2.1.2
  clear hC hc hl h
  refine (callsIn_wide (n := 8)).1 ?_
  refine callsIn_of_wp_marks Try.func22 rfl trivial ?_ rfl
  simp only [Try.ntmps22, List.size_toArray, List.length_cons, List.length_nil, Nat.reduceAdd, Nat.reduceSub, Array.replicate_succ, Array.replicate_zero, List.push_toArray, List.append_toArray, List.nil_append, List.cons_append]
  refine wpIn_wide.2 ?_
  go_upto_region 1 with (fail)
  obtain ⟨w1, hw1⟩ : ∃ w1, w1 = ((w.alloc (.cells #[.slice A l.length c] 28)).alloc (.cells #[.int .i64 b] 3)).alloc (.cells #[.int .i64 0] 3) := ⟨_, rfl⟩
  obtain ⟨pi, hpi⟩ : ∃ pi, pi = w.heap.size := ⟨_, rfl⟩
  obtain ⟨pb, hpb⟩ : ∃ pb, pb = w.heap.size + 1 := ⟨_, rfl⟩
  obtain ⟨pr, hpr⟩ : ∃ pr, pr = w.heap.size + 1 + 1 := ⟨_, rfl⟩
  have hB := Aside0.mk (Cb.start w A l.length c b)
  rw [← hpr, ← hpb, ← hpi, ← hw1] at hB ⊢
  clear hw1 hpi hpb hpr
  have q0 := hB.out.hi.cell
  go_wp2_with fail
  clear q0
  refine (depths_any A c l _ (Kd.C_below hX.out.1 hB.out.bw) hX.out.2.1 hX.out.2.2.1).mono ?_
  rintro e' w2 ⟨v, bo, rfl, hyes, hno, B2⟩
  have h2 := Aside0.mk (hB.out.step B2)
  have q0 := h2.out.hi.cell
  have q1 := h2.out.hb.cell
  obtain rfl : bo = true := by
    cases bo with
    | true => rfl
    | false => exact absurd hX.out.2.2.2.1 (hno rfl)
  obtain ⟨hT, d, hR, hd⟩ := hyes rfl
  obtain ⟨Ad, cd, ev, hx, Cx⟩ := Kd.R_reads hR
  rw [hd.len] at ev Cx
  subst ev
  obtain ⟨ka, hka, hupa⟩ := hd.at_ a hX.out.2.2.2.2.1 hX.out.2.2.2.2.2.2.1
  obtain ⟨kb, hkb, hupb⟩ := hd.at_ b hX.out.2.2.2.2.2.1 hX.out.2.2.2.2.2.2.2
  obtain ⟨la, eA, z1⟩ := Kd.at_int Cx a a0 a1
  obtain ⟨la', eA', z2⟩ := Kd.at_int Cx b b0 b1
  subst eA
  injection eA' with eA'
  subst eA'
  rw [hka] at z1
  rw [hkb] at z2
  have hU := Aside0.mk (And.intro hupa hupb)
  clear hyes hno B2 hR hd Cx hx hT hka hkb hupa hupb
  go_wp2_with fail
  refine (up_any A l.length c a _).mono ?_
  rintro e' w3 ⟨rfl, rfl⟩
  clear q0 q1 z1 z2
  go_wp2
  obtain ⟨w3, hw3⟩ : ∃ w3, w3 = (w2.alloc (.cells #[.slice A l.length c] 28)).alloc (.cells #[.int .i64 a] 3) := ⟨_, rfl⟩
  have hib := ib_of (c := c) a hX.out.1 h2.out.bw
  rw [← hw3] at hib ⊢
  have hsz : w3.heap.size = w2.heap.size + 2 := by rw [hw3]; simp
  have b23 : Below w2.heap.size w2 w3 := by rw [hw3]; exact below_alloc (below_alloc (Below.refl _ _) _) _
  have hprl := h2.out.hr.lt
  have hI0 : Co w w3 pi pb pr A l.length c b w3.heap.size := ⟨h2.out.step b23, Nat.le_refl _⟩
  have hws := h2.out.bw.size
  clear hw3 b23
  refine frame_abs ?_
  intro a' ha'
  have h14 : 1 ≤ 8 := by omega
  refine (wpIn_wide (n := 8)).1 ?_
  refine RangeC.range_c (gf := 49) (lb := #[.pointer (some ⟨w2.heap.size + 1, 0, none⟩), .pointer (some ⟨w2.heap.size, 0, none⟩)]) (encs := fun x : Int => #[Value.int .i64 x]) (n₀ := w2.heap.size + 2) (bn := w2.heap.size + 1) (xs := ups l ka a) rfl h14 (by rw [ha']; rfl) trivial (enters_of Try.func49 (by kernel_rfl) rfl)
    (up_iter (8 - 1) (by omega) _ _ _ _ _ _ l a ka w3 hib hU.out.1) (fun x => decide (x ∉ ups l kb b)) (by omega) (by omega) (fun _ => rfl)
    (fun _ W => Co w W pi pb pr A l.length c b w3.heap.size)
    (Fin w pr)
    (co_own (by omega))
    (fin_own (by omega))
    (fun pre X u hs => hs.set _ _ (by omega))
    hI0
    (fun pre x a'' W => Ox a'.tmps w pi pb pr A l.length c b w3.heap.size x a'' W)
    (fun pre x a'' => ox_own (by omega) x a'')
    ?assign ?body ?done ?stop
  case assign =>
    intro L pre x W K hI hx hK
    have hsW := hI.sz
    have hK' := Aside0.mk (hK { tmps := (a'.tmps.setIfInBounds 55 (.int .i64 x)).setIfInBounds 9 (.pointer (some ⟨W.heap.size, 0, none⟩)), defers := [] } (W.alloc (.cells #[.int .i64 x] 3)) ((KeepsOthers.alloc _ _).from _) (fun k hk => Below.heap_alloc _ _ _ (by omega)) ⟨W.heap.size, rfl, hsW, Boxed.new W 3 _, hI.new _⟩)
    clear hK hI
    subst ha'
    gi_wp2
    simpa using hK'.out
  case done =>
    rintro D W hD hall hI hK
    exfalso
    obtain ⟨r, h1, h2', h3⟩ := up_top hU.out.1
    obtain ⟨r', h4, h5, h6⟩ := up_top hU.out.2
    have e := root_uniq hX.out.2.2.2.1.one h1 h2' h4 h5
    subst e
    have := hall r h3
    simp at this
    exact this h6
  case stop =>
    rintro D pre x W hD ⟨rest, hpre⟩ hgo hx ⟨ys, x', hxx, hb1, hbB⟩ hK
    have e1 : x' = x := by have := List.append_inj_right' hxx rfl; simpa using this.symm
    subst e1
    have hN := Aside0.mk (And.intro hb1 (And.intro hbB (And.intro hK (And.intro hD (low_of hU.out.1 hU.out.2 hpre (fun y hy => by simpa using hgo y hy) (by simpa using hx))))))
    clear hb1 hbB hK hD hx hpre hgo hxx
    subst ha'
    refine wpIn_wide.2 ?_
    go_wp2
    have q5 : (W.putObj D (.deferred none)).cell? ⟨pr, 0, none⟩ = some (.int .i64 x') := cell_at ((World.putObj_heap_other (by have := hN.out.2.2.2.1; omega)).trans hN.out.1) rfl
    refine ⟨by simp, .inl ⟨_, _, rfl, run_takeDeferred hN.out.2.2.1, ?_⟩⟩
    refine ⟨.int .i64 x', (by simp [results, Try.results22, go_sem, q5]), x', rfl, .inl ⟨hX.out.2.2.2, hN.out.2.2.2.2⟩, ?_⟩
    exact hN.out.2.1.trans (belowK_b (w := w) (Nat.le_refl _) _ D _ _ (by have := hN.out.2.2.2.1; omega) hN.out.2.2.1 rfl rfl)
  case body =>
    rintro L pre x a'' W hL hr hx ⟨q, rfl, hq, hbq, hCo⟩
    obtain ⟨r₀, hr₀⟩ := hr
    have p1 := hCo.cb.hi.cell
    have p2 := hCo.cb.hb.cell
    have hN := Aside0.mk (And.intro hr₀ (And.intro hbq (And.intro hCo hx)))
    have hLW : L < W.heap.size := (Array.getElem?_eq_some_iff.1 hr₀).1
    have hqW := hbq.lt
    clear hr₀ hbq hCo hx
    subst ha'
    simp only [List.setIfInBounds_toArray, List.set_cons_succ, List.set_cons_zero]
    gi_wp2_with (refine ⟨trivial, ?_⟩; gi_at_call 40; refine (callsIn_wide.2 (up_any A l.length c b _)).mono ?_; rintro e w' ⟨rfl, rfl⟩)
    obtain ⟨W4, hW4⟩ : ∃ W4, W4 = (W.alloc (.cells #[.slice A l.length c] 28)).alloc (.cells #[.int .i64 b] 3) := ⟨_, rfl⟩
    have hib2 := ib_of (c := c) b hX.out.1 hN.out.2.2.1.cb.bw
    rw [← hW4] at hib2 ⊢
    have hsz4 : W4.heap.size = W.heap.size + 2 := by rw [hW4]; simp
    have hNsz := hN.out.2.2.1.sz
    have bW4 : Below W.heap.size W W4 := by rw [hW4]; exact below_alloc (below_alloc (Below.refl _ _) _) _
    have hL4 : W4.heap[L]? = some (.loop r₀) := (bW4.block L hLW).trans hN.out.1
    have hk4 : KeepsFrom w3.heap.size W W4 := by rw [hW4]; exact ((KeepsOthers.alloc W _).trans (KeepsOthers.alloc _ _)).from _
    have hJ0 : Co w W4 pi pb pr A l.length c b w3.heap.size ∧ Boxed W4 q 3 (.int .i64 x) ∧ KeepsFrom w3.heap.size W W4 ∧ (RangeC.Sm (w2.heap.size + 2) W W4 ∧ W.heap.size ≤ W4.heap.size) :=
      ⟨⟨hN.out.2.2.1.cb.step bW4, by omega⟩, (bW4.block q hqW).trans hN.out.2.1, hk4, fun k hk => bW4.block k (by omega), by omega⟩
    clear hW4 bW4 hk4
    refine frame_absI ?_
    intro a2 ha2
    refine RangeC.range_in (l₀ := L) (r₀ := r₀) (gf := 49) (lb := #[.pointer (some ⟨W.heap.size + 1, 0, none⟩), .pointer (some ⟨W.heap.size, 0, none⟩)]) (encs := fun y : Int => #[Value.int .i64 y]) (n₀ := W.heap.size + 2) (bn := W.heap.size + 1) (xs := ups l kb b) rfl hL4 (by omega) (by rw [ha2]; rfl) trivial (enters_of Try.func49 (by kernel_rfl) rfl)
      (up_iter (8 - 1 - 1 - 1) (by omega) _ _ _ _ _ _ l b kb W4 hib2 hU.out.2) (fun y => decide (y ≠ x)) (by omega) (by omega) (fun _ => rfl)
      (fun _ W' => Co w W' pi pb pr A l.length c b w3.heap.size ∧ Boxed W' q 3 (.int .i64 x) ∧ KeepsFrom w3.heap.size W W' ∧ (RangeC.Sm (w2.heap.size + 2) W W' ∧ W.heap.size ≤ W'.heap.size))
      (fun _ W' => KeepsFrom w3.heap.size W W' ∧ Boxed W' pr 3 (.int .i64 x) ∧ Below w.heap.size w W')
      (OwnFrom.and (co_own (by omega)) (OwnFrom.and (Own.from (boxed_own q 3 (fun _ => .int .i64 x)) _) (OwnFrom.and (keep_own (by omega)) (sm_own (by omega) (by omega)))))
      (OwnFrom.and (keep_own (by omega)) (OwnFrom.and (Own.from (boxed_own pr 3 (fun _ => .int .i64 x)) _) (ownFrom_below (Nat.le_refl _) (by omega))))
      (fun pre X u hs => ⟨hs.1.set _ _ (by omega), hs.2.1.other (by omega) u, hs.2.2.1.trans ((KeepsOthers.setCell _ _ _).from _), fun k hk => (RangeC.keep_set (base := 0) (by omega)).trans (hs.2.2.2.1 k hk), by simpa using hs.2.2.2.2⟩)
      hJ0
      (fun pre y a'' W' => a'' = { tmps := (a2.tmps.setIfInBounds 59 (.int .i64 y)).setIfInBounds 10 (.int .i64 y), defers := [] } ∧ Co w W' pi pb pr A l.length c b w3.heap.size ∧ Boxed W' q 3 (.int .i64 x) ∧ KeepsFrom w3.heap.size W W' ∧ (RangeC.Sm (w2.heap.size + 2) W W' ∧ W.heap.size ≤ W'.heap.size))
      (fun pre y a'' => OwnFrom.and (ownFrom_pure _ _) (OwnFrom.and (co_own (by omega)) (OwnFrom.and (Own.from (boxed_own q 3 (fun _ => .int .i64 x)) _) (OwnFrom.and (keep_own (by omega)) (sm_own (by omega) (by omega))))))
      ?assign2 ?body2 ?done2 ?stop2
    case assign2 =>
      intro L2 pre2 y W' K hI hy hK
      have hK' := Aside0.mk (hK _ W' (KeepsFrom.refl _ _) (RangeC.Sm.refl _ _) ⟨rfl, hI⟩)
      clear hK hI
      subst ha2
      gi_wp2
      simpa using hK'.out
    case body2 =>
      rintro L2 pre2 y a3 W' hL2 _ hy ⟨rfl, hC1, hC2, hC3, hC4⟩
      have p3 := hC2.cell
      have p4 := hC1.cb.hr.cell
      have p5 := hC1.cb.hr.frozen
      have hM := Aside0.mk (And.intro hC1 (And.intro hC2 (And.intro hC3 hC4)))
      clear hC1 hC2 hC3 hC4 p1 p2
      subst ha2
      simp only [List.setIfInBounds_toArray, List.set_cons_succ, List.set_cons_zero]
      by_cases hyx : y = x
      · subst hyx
        gi_wp2
        refine ⟨by simp, (KeepsOthers.setCell _ _ _).from _, hM.out.2.2.1.trans ((KeepsOthers.setCell _ _ _).from _), hM.out.1.cb.hr.set _, hM.out.1.cb.bw.setCell (p := ⟨pr, 0, none⟩) ?_ _⟩
        have h1 := hM.out.1.cb.o1; have h2 := hM.out.1.cb.o2; have h3 := hM.out.1.cb.o3
        show w.heap.size ≤ pr
        omega
      · have e1 : (y == x) = false := by simpa using hyx
        have e2 := Aside0.mk hyx
        clear hyx
        gi_wp2
        exact ⟨by simpa using e2.out, KeepsFrom.refl _ _, RangeC.Sm.refl _ _, hM.out⟩
    case done2 =>
      rintro W' hall ⟨hC1, hC2, hC3, hC4⟩
      have hM := Aside0.mk (And.intro hC1 (And.intro hC3 (And.intro hC4.1 (show x ∉ ups l kb b from fun hm => by have := hall x hm; simp at this))))
      clear hC1 hC2 hC3 hC4 hall p1 p2
      subst ha2
      gi_wp2
      exact ⟨by simpa using hM.out.2.2.2, hM.out.2.1, hM.out.2.2.1, hM.out.1⟩
    case stop2 =>
      rintro pre2 y W' ⟨rest2, hpre2⟩ _ hy ⟨hC1, hC2, hC3⟩
      have hyx : y = x := by simpa using hy
      have hM := Aside0.mk (And.intro hC1 (And.intro hC2 (And.intro hC3 (show x ∈ ups l kb b by rw [hpre2, ← hyx]; simp))))
      clear hC1 hC2 hC3 hpre2 hy hyx p1 p2
      subst ha2
      gi_wp2
      exact ⟨by simpa using hM.out.2.2.2, hM.out.1, pre, x, rfl, hM.out.2.1, hM.out.2.2.1⟩
theorem common_dom_any (A : Option Addr) (c : Nat) (l : List Int) (a b : Int) (w : World) (hC : Kd.C (Kd.int .i64) w A l.length l) (hc : l.length ≤ c) (hl : l.length ≤ 70) :
    Calls Try.prog 22 #[.slice A l.length c, .int .i64 a, .int .i64 b] w (CQ l a b w) := by
  by_cases h : InT l a b
  · exact common_yes A c l a b w hC hc hl h
  · exact common_no A c l a b w hC hc hl h
end Go.Proofs.Ytbphjbfnnhfhlaa
end

section
/- Children. -/
set_option linter.unusedVariables false
set_option linter.unusedSimpArgs false
set_option linter.unusedSectionVars false
namespace Go.Proofs.Ytbphjbfnnhfhlaa
open Go.RowKit Go.Proofs.YtbphjbfnnhfhlaaW.PrintWords Go.Proofs.Ytbphjbfnnhfhlaa.PDigraphTells Mem

/-- A row of rows, one of them taken out, written and put back. -/
theorem kid_open {W : World} {ok : Nat → Prop} {g n cap : Nat} {xs : List (List Int)} (hS : Kd.S kG 28 W 0 ok (.slice (some ⟨g, 0, none⟩) n cap) xs) (p : Int) (h0 : 0 ≤ p) (h1 : p < n) :
    ∃ A0 c0, ∃ oki : Nat → Prop, W.cell? ⟨g, p.toNat, none⟩ = some (.slice A0 (rd_L1 xs p).length c0) ∧ W.frozen? ⟨g, p.toNat, none⟩ = false ∧ Kd.R (Kd.int .i64) 3 W 0 oki (.slice A0 (rd_L1 xs p).length c0) (rd_L1 xs p) ∧ (∀ k, oki k → ok k ∧ k ≠ g) ∧
      ∀ w1 v1 ys, W.grownBy w1 (Value.slice A0 (rd_L1 xs p).length c0).ownBlock → Kd.R (Kd.int .i64) 3 w1 0 (fun k => oki k ∨ ok k ∧ W.heap.size ≤ k) v1 ys →
        w1.cell? ⟨g, p.toNat, none⟩ = some (.slice A0 (rd_L1 xs p).length c0) ∧ w1.frozen? ⟨g, p.toNat, none⟩ = false ∧ Kd.S kG 28 (w1.setCell ⟨g, p.toNat, none⟩ v1) 0 ok (.slice (some ⟨g, 0, none⟩) n cap) (xs.set p.toNat ys) := by
  obtain ⟨oki, ce, hcl, hM, hcc, hfr, hoki, hH⟩ := Kd.S_elem hS [] p h0 h1
  obtain ⟨ve, rfl, ge⟩ := hM
  have hv := hcc 0 _ rfl
  have hf := hfr 0
  rw [Nat.add_zero, show (Kd.slice 3 (Kd.int .i64)).sz = 1 from rfl, Nat.mul_one] at hv hf
  obtain ⟨A0, c0, ev, _, _⟩ := Kd.R_reads ge
  subst ev
  refine ⟨A0, c0, oki, hv, hf, ge, hoki, fun w1 v1 ys hg hR => ?_⟩
  have hH1 := Kd.H_grown (Kd.H_widen hH) hg (fun k e => .inl (ge.1 k e))
  obtain ⟨g1, g2⟩ := Kd.H_at hH1 h0 h1
  have g1 := g1 0 _ rfl
  have g2 := g2 0
  rw [Nat.add_zero, show (Kd.slice 3 (Kd.int .i64)).sz = 1 from rfl, Nat.mul_one] at g1 g2
  have hP := (Kd.S_seg0 hH1 h0 h1 (seg := [v1]) (j := 0) (show 0 + 1 ≤ 1 from Nat.le_refl _) (x' := ys) (Kd.M_row hR) (fun _ hk => hk)).1
  rw [Nat.add_zero, show (Kd.slice 3 (Kd.int .i64)).sz = 1 from rfl, Nat.mul_one] at hP
  exact ⟨g1, g2, hP⟩

theorem kid_below {w1 wr wa : World} {row : Option Nat} (hb : Below w1.heap.size w1 wr) (hg : wr.grownBy wa row) (hr : ∀ k, row = some k → w1.heap.size ≤ k) {g : Nat} (hgl : w1.heap.size ≤ g) (o : Nat) (v : Value) : Below w1.heap.size w1 (wa.setCell ⟨g, o, none⟩ v) :=
  hb.trans ((((Kp.refl (fun k => w1.heap.size ≤ k) wr).grown hg (fun k hk => .inl (hr k hk))).setCell (p := ⟨g, o, none⟩) (.inl hgl) v).belowB (fun k hk => hk) hb.size)
/-- What Children hands back, in plain lists. -/
def kidsU (l : List Int) (i : Nat) (b : Int) : List Int := ((List.range i).filter fun (j : Nat) => decide (rd l (j : Int) = b ∧ b ≠ (j : Int))).map fun (j : Nat) => (j : Int)
def kidsL (l : List Int) : List (List Int) := (nodes (List.replicate l.length [])).map (kidsU l l.length)
structure KV (l : List Int) (o : List (List Int)) (i : Nat) : Prop where
  len : o.length = l.length
  at_ : ∀ b, idx l b → rd_L1 o b = kidsU l i b
theorem kidsU_succ (l : List Int) (i : Nat) (b : Int) : kidsU l (i + 1) b = kidsU l i b ++ if rd l (i : Int) = b ∧ b ≠ (i : Int) then [(i : Int)] else [] := by
  unfold kidsU
  rw [List.range_succ, List.filter_append, List.map_append]
  by_cases h : rd l (i : Int) = b ∧ b ≠ (i : Int)
  · rw [if_pos h, List.filter_cons, if_pos (by simpa using h)]; rfl
  · rw [if_neg h, List.filter_cons, if_neg (by simpa using h)]; rfl
theorem kidsU_len (l : List Int) (i : Nat) (b : Int) : (kidsU l i b).length ≤ i := by
  unfold kidsU
  rw [List.length_map]
  have := List.length_filter_le (fun (j : Nat) => decide (rd l (j : Int) = b ∧ b ≠ (j : Int))) (List.range i)
  rwa [List.length_range] at this
theorem KV.start (l : List Int) : KV l (List.replicate l.length []) 0 := by
  refine ⟨List.length_replicate, fun b hb => ?_⟩
  have e : b = (b.toNat : Int) := (Int.toNat_of_nonneg hb.1).symm
  have := hb.2
  rw [e, rd1_get _ b.toNat (by rw [List.length_replicate]; omega), List.getElem_replicate]
  rfl
theorem KV.skip {l : List Int} {o : List (List Int)} {i : Nat} (h : KV l o i) (hn : rd l (i : Int) < 0 ∨ rd l (i : Int) = (i : Int)) : KV l o (i + 1) := by
  refine ⟨h.len, fun b hb => ?_⟩
  rw [h.at_ b hb, kidsU_succ, if_neg (by rintro ⟨h1, h2⟩; have := hb.1; rcases hn with h3 | h3 <;> omega), List.append_nil]
theorem KV.put {l : List Int} {o : List (List Int)} {i : Nat} (h : KV l o i) (hp : idx l (rd l (i : Int))) (hn : rd l (i : Int) ≠ (i : Int)) : KV l (o.set (rd l (i : Int)).toNat (rd_L1 o (rd l (i : Int)) ++ [(i : Int)])) (i + 1) := by
  refine ⟨by rw [List.length_set]; exact h.len, fun b hb => ?_⟩
  rw [rd1_set o _ hp.1 (by rw [h.len]; exact hp.2) _ b hb.1, kidsU_succ]
  by_cases e : b = rd l (i : Int)
  · rw [if_pos e, if_pos ⟨e.symm, by omega⟩, ← h.at_ b hb, e]
  · rw [if_neg e, if_neg (fun h1 => e h1.1.symm), List.append_nil, h.at_ b hb]
theorem KV.last {l : List Int} {o : List (List Int)} (h : KV l o l.length) : o = kidsL l := by
  unfold kidsL
  refine tab_ext (by rw [List.length_replicate]; exact h.len) fun b hb => ?_
  unfold isNode at hb
  rw [List.length_replicate] at hb
  exact h.at_ b hb
theorem kids_len (l : List Int) : (kidsL l).length = l.length := by unfold kidsL; rw [List.length_map, nodes_len, List.length_replicate]

/-- What Children answers. -/
def KQ (l : List Int) (w : World) (e : Ending) (w' : World) : Prop := ∃ v o, e = .returned v ∧ Kd.S kG 28 w' 0 (fun k => w.heap.size ≤ k) v o ∧ ((Tree l ∧ o = kidsL l) ∨ (¬ Tree l ∧ o = [])) ∧ Below w.heap.size w w'

set_option maxRecDepth 100000 in
set_option maxHeartbeats 2000000 in
theorem children_any (A : Option Addr) (c : Nat) (l : List Int) (w : World) (hC : Kd.C (Kd.int .i64) w A l.length l) (hc : l.length ≤ c) (hl : l.length ≤ 70) :
    Calls Try.prog 28 #[.slice A l.length c] w (KQ l w) := by
  have hX := Aside0.mk (And.intro hC (And.intro hc hl))
  clear hC hc hl
  go_enter Try.func28, Try.ntmps28
  go_wp2_with fail
  refine (depths_any A c l _ hX.out.1 hX.out.2.1 hX.out.2.2).mono ?_
  rintro e' w1 ⟨v, bo, rfl, hyes, hno, B1⟩
  cases bo
  · have hF : Aside0 (KQ l w (.returned (.slice none 0 0)) w1) := ⟨_, [], rfl, Kd.S_nil _ _ _ _ _, .inr ⟨hno rfl, rfl⟩, B1⟩
    clear hyes hno B1
    go_wp2
    go_ret
    exact hF.out
  · have hT := Aside0.mk (And.intro (hyes rfl).1 B1)
    clear hyes hno B1
    go_wp2_with (at_make; refine Kd.S_make kG (w0 := w1) 0 28 (by rfl) (N := 17) (by rfl) 22 (.tmp 16) (.tmp 16) (by rfl) (l.length : Int) (by rfl) (by rfl) Try.underlying22 (.slice none 0 0) 24 info28 rfl (by decide) (by decide) [] (ok := fun k => w1.heap.size ≤ k) (okp := fun _ => False) ⟨_, rfl, Kd.R_nil _ _ _ _ _⟩ (fun _ h => h.elim) (Nat.le_refl _) (by omega) (by have := hX.out.2.2; omega) ((Kp.refl (fun _ => False) w1).belowB (fun _ h => h.elim) (Nat.zero_le _)) (Nat.zero_le _) ?_; intro v7 w7 hRA hBA hgA hatA; rw [Int.toNat_natCast] at hRA; have hb7 : Below w1.heap.size w1 w7 := ((Kp.refl (fun _ => False) w1).grown hgA (fun k hk => by cases hk)).none_below; obtain ⟨B, cb, ev, hx, Cx⟩ := Kd.S_reads hRA; rw [List.length_replicate] at ev; subst ev; clear hx Cx; have hI0 : Aside0 (Kd.S kG 28 w7 0 (fun k => w1.heap.size ≤ k) (.slice B l.length cb) (List.replicate l.length []) ∧ Below w1.heap.size w1 w7 ∧ KV l (List.replicate l.length []) 0) := ⟨hRA, hb7, KV.start l⟩; clear hRA hBA hgA hatA hb7)
    go_loopg [20] l.length (fun q v wi => ∃ (i : Nat) (o : List (List Int)), i + q = l.length ∧ v = .int .i64 (i : Int) ∧ Aside0 (Kd.S kG 28 wi 0 (fun k => w1.heap.size ≤ k) (.slice B l.length cb) o ∧ Below w1.heap.size w1 wi ∧ KV l o i))
    case atStart => exact ⟨0, _, by omega, rfl, hI0⟩
    case round =>
      obtain ⟨i, o, hi, rfl, hJ⟩ := hrel
      clear hI0
      by_cases hlt : i < l.length
      · have hlti : (i : Int) < l.length := by omega
        obtain ⟨gk1, rfl⟩ : ∃ q, gk = q + 1 := ⟨gk - 1, by omega⟩
        have hi1 : i + 1 + gk1 = l.length := by omega
        have hgk1 : gk1 < gk1 + 1 := by omega
        have hl70 : l.length ≤ 70 := hX.out.2.2
        obtain ⟨ad, eA, x0⟩ := Kd.at_int (Kd.C_below (Kd.C_below hX.out.1 hT.out.2) hJ.out.2.1) (i : Int) (by omega) hlti
        subst eA
        rw [Int.toNat_natCast] at x0
        have hrg := hT.out.1.rng (i : Int) ⟨by omega, hlti⟩
        by_cases hskip : rd l (i : Int) < 0 ∨ rd l (i : Int) = (i : Int)
        · have hI : Aside0 (Kd.S kG 28 wr 0 (fun k => w1.heap.size ≤ k) (.slice B l.length cb) o ∧ Below w1.heap.size w1 wr ∧ KV l o (i + 1)) := ⟨hJ.out.1, hJ.out.2.1, hJ.out.2.2.skip hskip⟩
          obtain ⟨p, hp⟩ : ∃ p, rd l (i : Int) = p := ⟨_, rfl⟩
          rw [hp] at x0 hskip
          clear hJ hrg hp
          by_cases hneg : p < 0
          · clear hskip
            go_wp2_with fail
            go_roundg gk1
            case rel => exact ⟨i + 1, o, hi1, by go_num, hI⟩
            case measure => exact hgk1
          · have hpi : p = (i : Int) := by omega
            subst hpi
            have e1 : ((i : Int) != (i : Int)) = false := by simp
            clear hskip
            go_wp2_with fail
            go_roundg gk1
            case rel => exact ⟨i + 1, o, hi1, by go_num, hI⟩
            case measure => exact hgk1
        · have hpi : idx l (rd l (i : Int)) := ⟨by omega, hrg.2⟩
          obtain ⟨g, cap', ev, _⟩ := Kd.S_form hJ.out.1 (by rw [hJ.out.2.2.len]; omega)
          injection ev with e1 e2 e3
          subst e1
          clear e2 e3
          have hgl : Aside0 (w1.heap.size ≤ g) := ⟨(Kd.S_R hJ.out.1).1 g rfl⟩
          obtain ⟨A0, c0, oki, k1, k2, k3, k4, k5⟩ := kid_open hJ.out.1 (rd l (i : Int)) hpi.1 hpi.2
          have hrl : (rd_L1 o (rd l (i : Int))).length ≤ 70 := by rw [hJ.out.2.2.at_ _ hpi]; have := kidsU_len l i (rd l (i : Int)); omega
          have hput := hJ.out.2.2.put hpi (by omega)
          obtain ⟨p, hp⟩ : ∃ p, rd l (i : Int) = p := ⟨_, rfl⟩
          rw [hp] at x0 hskip k1 k2 k3 k5 hrl hput hpi
          have p0 := hpi.1
          have p1 : p < (l.length : Int) := hpi.2
          have e1 : (p != (i : Int)) = true := by simp; omega
          obtain ⟨row, hrow⟩ : ∃ row, rd_L1 o p = row := ⟨_, rfl⟩
          rw [hrow] at k1 k3 k5 hrl hput
          have hM := Aside0.mk (And.intro k3 (And.intro k4 (And.intro k5 (And.intro hput hJ.out.2.1))))
          clear k3 k4 k5 hput hJ hrg hp hskip hpi hrow
          go_wp2_with (at_builtin; refine Kd.R_append (Kd.int .i64) (w0 := wr) 0 (by rfl) (.tmp 37) (.tmp 39) 28 3 (.int .i64 0) 8 (by rfl) Try.underlying28 info3 rfl (by decide) (by decide) (.slice A0 row.length c0) row (i : Int) [.int .i64 (i : Int)] (fun k => oki k ∨ w1.heap.size ≤ k ∧ wr.heap.size ≤ k) (fun _ => False) (by rfl) (by rfl) (by rfl) (fun _ h => h.elim) (fun k hk => .inr ⟨by have := hM.out.2.2.2.2.size; omega, hk⟩) (Kd.R_mono hM.out.1 (fun k hk => .inl hk)) ((Kp.refl (fun _ => False) wr).belowB (fun _ h => h.elim) (Nat.zero_le _)) (Nat.zero_le _) (by omega) ?_; intro v1 wa hRA hBA hgA hatA; obtain ⟨z1, z2, z3⟩ := hM.out.2.2.1 wa v1 _ hgA hRA; obtain ⟨A1, c1, ev, _, _⟩ := Kd.R_reads hRA; rw [List.length_append, List.length_singleton] at ev; subst ev; have hK : Below w1.heap.size w1 (wa.setCell ⟨g, p.toNat, none⟩ (.slice A1 (row.length + 1) c1)) := kid_below hM.out.2.2.2.2 hgA (fun k hk => (hM.out.2.1 k (hM.out.1.1 k hk)).1) hgl.out _ _; have hI := Aside0.mk (And.intro z3 (And.intro hK hM.out.2.2.2.1)); clear hRA hBA hgA hatA z3 hK)
          go_roundg gk1
          case rel => exact ⟨i + 1, _, hi1, by go_num, hI⟩
          case measure => exact hgk1
      · have hil : i = l.length := by omega
        have hF : Aside0 (KQ l w (.returned (.slice B l.length cb)) wr) := ⟨_, o, rfl, Kd.S_mono hJ.out.1 (fun k hk => by have := hT.out.2.size; omega), .inl ⟨hT.out.1, by have := hJ.out.2.2; rw [hil] at this; exact this.last⟩, hT.out.2.trans (hJ.out.2.1.mono hT.out.2.size)⟩
        clear hJ hil
        go_wp2
        go_ret
        exact hF.out
end Go.Proofs.Ytbphjbfnnhfhlaa
end

section
/- Preorder: plain lists and the inner visit. -/
set_option linter.unusedVariables false
set_option linter.unusedSimpArgs false
set_option linter.unusedSectionVars false
namespace Go.Proofs.Ytbphjbfnnhfhlaa
open Go.RowKit Go.Proofs.YtbphjbfnnhfhlaaW.PrintWords Go.Proofs.Ytbphjbfnnhfhlaa.PDigraphTells Mem

def preF (l : List Int) : Nat → Int → List Int
  | 0, x => [x]
  | f + 1, x => x :: (kidsU l l.length x).flatMap (preF l f)
theorem mem_kids {l : List Int} {x y : Int} : y ∈ kidsU l l.length x ↔ idx l y ∧ rd l y = x ∧ y ≠ x := by
  unfold kidsU idx
  rw [List.mem_map]
  constructor
  · rintro ⟨j, hj, rfl⟩
    rw [List.mem_filter, List.mem_range] at hj
    have h2 := of_decide_eq_true hj.2
    exact ⟨⟨by omega, by omega⟩, h2.1, fun e => h2.2 e.symm⟩
  · rintro ⟨⟨h0, h1⟩, h2, h3⟩
    have e : y = (y.toNat : Int) := (Int.toNat_of_nonneg h0).symm
    refine ⟨y.toNat, List.mem_filter.2 ⟨List.mem_range.2 (by omega), decide_eq_true ⟨by rw [← e]; exact h2, by rw [← e]; exact fun e2 => h3 e2.symm⟩⟩, e.symm⟩
theorem kids_nd (l : List Int) (x : Int) : (kidsU l l.length x).Nodup := by
  unfold kidsU
  have h : ((List.range l.length).filter fun (j : Nat) => decide (rd l (j : Int) = x ∧ x ≠ (j : Int))).Nodup := List.Pairwise.filter _ List.nodup_range
  exact List.pairwise_map.2 (h.imp (fun h1 h2 => h1 (by omega)))
theorem kid_up {l : List Int} {x y : Int} {k : Nat} (h : Up l x k) (hy : y ∈ kidsU l l.length x) : Up l y (k + 1) := by
  obtain ⟨h1, h2, h3⟩ := mem_kids.1 hy
  exact .step h1 (by rw [h2]; exact Ne.symm h3) (by rw [h2]; exact h)
theorem on_split {l : List Int} {x y : Int} (h : On l x y) : y = x ∨ ∃ c, c ∈ kidsU l l.length x ∧ On l c y := by
  induction h with
  | refl => exact .inl rfl
  | @step y hi e u ih =>
    right
    rcases ih with ih | ⟨c, h1, h2⟩
    · exact ⟨y, mem_kids.2 ⟨hi, ih, fun e2 => e (by rw [ih, e2])⟩, .refl⟩
    · exact ⟨c, h1, .step hi e h2⟩
theorem on_kid {l : List Int} {x c y : Int} (hc : c ∈ kidsU l l.length x) (h : On l c y) : On l x y := by
  obtain ⟨h1, h2, h3⟩ := mem_kids.1 hc
  induction h with
  | refl => exact .step h1 (by rw [h2]; exact Ne.symm h3) (by rw [h2]; exact .refl)
  | step hi e _ ih => exact .step hi e ih
theorem mem_preF {l : List Int} : ∀ (f : Nat) (x : Int) (k : Nat), Up l x k → l.length ≤ k + 1 + f → ∀ y, y ∈ preF l f x ↔ On l x y := by
  intro f
  induction f with
  | zero =>
    intro x k hu hn y
    rw [preF, List.mem_singleton]
    constructor
    · rintro rfl; exact .refl
    · intro h
      rcases on_split h with h1 | ⟨c, h1, _⟩
      · exact h1
      · have := (kid_up hu h1).lt
        omega
  | succ f ih =>
    intro x k hu hn y
    rw [preF, List.mem_cons, List.mem_flatMap]
    constructor
    · rintro (rfl | ⟨c, h1, h2⟩)
      · exact .refl
      · exact on_kid h1 ((ih c (k + 1) (kid_up hu h1) (by omega) y).1 h2)
    · intro h
      rcases on_split h with h1 | ⟨c, h1, h2⟩
      · exact .inl h1
      · exact .inr ⟨c, h1, (ih c (k + 1) (kid_up hu h1) (by omega) y).2 h2⟩
theorem on_same {l : List Int} {a b y : Int} {k m : Nat} (hy : Up l y m) (ha : On l a y) (hb : On l b y) (ua : Up l a k) (ub : Up l b k) : a = b := by
  induction ha generalizing m b with
  | refl =>
    cases hb with
    | refl => rfl
    | step h e u =>
      obtain ⟨j, rfl, u2⟩ := hy.pred e
      obtain ⟨i, hi, u3⟩ := u2.on u
      have h1 := ub.uniq u3
      have h2 := ua.uniq hy
      omega
  | step h e u ih =>
    obtain ⟨j, rfl, u2⟩ := hy.pred e
    cases hb with
    | refl =>
      obtain ⟨i, hi, u3⟩ := u2.on u
      have h1 := ua.uniq u3
      have h2 := ub.uniq hy
      omega
    | step _ _ u4 => exact ih u2 u4 ub
theorem nd_flat {α β : Type} (g : α → List β) : ∀ L : List α, L.Nodup → (∀ a ∈ L, (g a).Nodup) → (∀ a ∈ L, ∀ b ∈ L, ∀ y, y ∈ g a → y ∈ g b → a = b) → (L.flatMap g).Nodup
  | [], _, _, _ => by simp
  | a :: L, h1, h2, h3 => by
    rw [List.flatMap_cons, List.nodup_append]
    rw [List.nodup_cons] at h1
    refine ⟨h2 a List.mem_cons_self, nd_flat g L h1.2 (fun b hb => h2 b (List.mem_cons_of_mem _ hb)) (fun b hb c hc => h3 b (List.mem_cons_of_mem _ hb) c (List.mem_cons_of_mem _ hc)), fun y hy z hz e => ?_⟩
    subst e
    obtain ⟨b, hb, hyb⟩ := List.mem_flatMap.1 hz
    have := h3 a List.mem_cons_self b (List.mem_cons_of_mem _ hb) y hy hyb
    subst this
    exact h1.1 hb
theorem on_up {l : List Int} {x y : Int} {k : Nat} (hx : Up l x k) (h : On l x y) : ∃ m, k ≤ m ∧ Up l y m := by
  induction h with
  | refl => exact ⟨k, Nat.le_refl _, hx⟩
  | step h e _ ih =>
    obtain ⟨m, hm, u⟩ := ih
    exact ⟨m + 1, by omega, .step h e u⟩
theorem nd_preF {l : List Int} : ∀ (f : Nat) (x : Int) (k : Nat), Up l x k → l.length ≤ k + 1 + f → (preF l f x).Nodup := by
  intro f
  induction f with
  | zero => intro x k _ _; rw [preF]; simp
  | succ f ih =>
    intro x k hu hn
    rw [preF, List.nodup_cons]
    refine ⟨fun hm => ?_, nd_flat _ _ (kids_nd l x) (fun c hc => ih c (k + 1) (kid_up hu hc) (by omega)) (fun a ha b hb y hya hyb => ?_)⟩
    · obtain ⟨c, hc, hx⟩ := List.mem_flatMap.1 hm
      have hcu := kid_up hu hc
      obtain ⟨m, hm2, u⟩ := on_up hcu ((mem_preF f c (k + 1) hcu (by omega) x).1 hx)
      have := hu.uniq u
      omega
    · have hau := kid_up hu ha
      have hbu := kid_up hu hb
      have h1 := (mem_preF f a (k + 1) hau (by omega) y).1 hya
      have h2 := (mem_preF f b (k + 1) hbu (by omega) y).1 hyb
      obtain ⟨m, _, u⟩ := on_up hau h1
      exact on_same u h1 h2 hau hbu
theorem len_preF {l : List Int} (f : Nat) (x : Int) (k : Nat) (hu : Up l x k) (hn : l.length ≤ k + 1 + f) : (preF l f x).length ≤ l.length := by
  have := nodup_len (preF l f x) (nodes (List.replicate l.length [])) (nd_preF f x k hu hn) (fun y hy => (mem_nodes _ y).2 (by
    obtain ⟨m, _, u⟩ := on_up hu ((mem_preF f x k hu hn y).1 hy)
    have := u.idx
    unfold idx at this
    unfold isNode
    rw [List.length_replicate]
    exact this))
  rwa [nodes_len, List.length_replicate] at this

/-- Preorder's variables in memory. -/
structure Pw (w wK wi : World) (bo bk bv : Nat) (B : Option Addr) (n cb : Nat) (kids : List (List Int)) (Ao : Option Addr) (co : Nat) (out : List Int) : Prop where
  b : Below w.heap.size w wi
  bK : Below wK.heap.size wK wi
  C : Kd.C kG wK B n kids
  ho : wi.heap[bo]? = some (.cells #[.slice Ao out.length co] 28 (0, 0))
  hk : wi.heap[bk]? = some (.cells #[.slice B n cb] 22 (0, 0))
  hv : wi.heap[bv]? = some (.cells #[.func (.func 37) #[] #[.pointer (some ⟨bo, 0, none⟩), .pointer (some ⟨bk, 0, none⟩), .pointer (some ⟨bv, 0, none⟩)]] 51 (0, 0))
  R : Kd.R (Kd.int .i64) 3 wi 0 (fun k => wK.heap.size ≤ k ∧ k ≠ bo ∧ k ≠ bk ∧ k ≠ bv) (.slice Ao out.length co) out
  o1 : w.heap.size ≤ wK.heap.size
  o2 : wK.heap.size ≤ bo
  o5 : bo ≠ bk
  o6 : bo ≠ bv
section
variable {w wK wi wj : World} {bo bk bv : Nat} {B : Option Addr} {n cb : Nat} {kids : List (List Int)} {Ao : Option Addr} {co : Nat} {out : List Int} (h : Pw w wK wi bo bk bv B n cb kids Ao co out)
include h
theorem Pw.app {wa : World} {A1 : Option Addr} {c1 : Nat} {out' : List Int} (hg : wi.grownBy wa (Value.slice Ao out.length co).ownBlock) (hR : Kd.R (Kd.int .i64) 3 wa 0 (fun k => wK.heap.size ≤ k ∧ k ≠ bo ∧ k ≠ bk ∧ k ≠ bv) (.slice A1 out'.length c1) out') :
    wa.cell? ⟨bo, 0, none⟩ = some (.slice Ao out.length co) ∧ wa.frozen? ⟨bo, 0, none⟩ = false ∧ Pw w wK (wa.setCell ⟨bo, 0, none⟩ (.slice A1 out'.length c1)) bo bk bv B n cb kids A1 c1 out' := by
  have h1 := h.o1; have h2 := h.o2; have h5 := h.o5; have h6 := h.o6
  have hrow := fun k (hk : (Value.slice Ao out.length co).ownBlock = some k) => h.R.1 k hk
  have hKA : Kp (fun k => wK.heap.size ≤ k ∧ k ≠ bo ∧ k ≠ bk ∧ k ≠ bv) wi wa := (Kp.refl _ wi).grown hg (fun k hk => .inl (hrow k hk))
  have hoa := hKA.blk h.ho (by omega)
  have hK2 : Kp (fun k => wK.heap.size ≤ k ∧ k ≠ bk ∧ k ≠ bv) wi (wa.setCell ⟨bo, 0, none⟩ (.slice A1 out'.length c1)) := (hKA.mono (fun k hk => ⟨hk.1, hk.2.2⟩)).setCell (p := ⟨bo, 0, none⟩) (.inl ⟨h2, h5, h6⟩) _
  refine ⟨cell_at hoa rfl, free_at hoa 0, h.b.trans (hK2.belowB (fun k hk => by omega) h.b.size), h.bK.trans (hK2.belowB (fun k hk => hk.1) h.bK.size), h.C, ?_, hK2.blk h.hk (by omega), hK2.blk h.hv (by omega), Kd.R_step hR (fun k hk _ => Below.heap_setCell wa ⟨bo, 0, none⟩ _ k (fun e => hk.2.1 e)), h1, h2, h5, h6⟩
  have := set_at (j := 0) hoa (.slice A1 out'.length c1)
  simpa using this
theorem Pw.co_ : wi.cell? ⟨bo, 0, none⟩ = some (.slice Ao out.length co) := cell_at h.ho rfl
theorem Pw.ck_ : wi.cell? ⟨bk, 0, none⟩ = some (.slice B n cb) := cell_at h.hk rfl
theorem Pw.cv_ : wi.cell? ⟨bv, 0, none⟩ = some (.func (.func 37) #[] #[.pointer (some ⟨bo, 0, none⟩), .pointer (some ⟨bk, 0, none⟩), .pointer (some ⟨bv, 0, none⟩)]) := cell_at h.hv rfl
end
theorem kids_at (l : List Int) {x : Int} (h : idx l x) : rd_L1 (kidsL l) x = kidsU l l.length x := by
  unfold idx at h
  have e : x = (x.toNat : Int) := (Int.toNat_of_nonneg h.1).symm
  rw [e, rd1_get _ x.toNat (by rw [kids_len]; omega)]
  unfold kidsL nodes
  simp only [List.getElem_map, List.getElem_range]
/-- What a visit leaves. -/
def PQ (w wK : World) (bo bk bv : Nat) (B : Option Addr) (n cb : Nat) (kids : List (List Int)) (out : List Int) (e : Ending) (w' : World) : Prop := e = .returned (.tuple #[]) ∧ ∃ Ao co, Pw w wK w' bo bk bv B n cb kids Ao co out

set_option maxRecDepth 100000 in
set_option maxHeartbeats 2000000 in
theorem pre_step (w wK : World) (bo bk bv : Nat) (B : Option Addr) (cb : Nat) (l : List Int) (hl : l.length ≤ 70) (x : Int) (hx : idx l x) (sub : Int → List Int) (wi : World) (Ao : Option Addr) (co : Nat) (out : List Int)
    (hsub : ∀ c, c ∈ kidsU l l.length x → ∀ (wi : World) (Ao : Option Addr) (co : Nat) (out : List Int), out.length + (sub c).length ≤ 1000000 → Pw w wK wi bo bk bv B l.length cb (kidsL l) Ao co out →
      Calls Try.prog 37 #[.int .i64 c, .pointer (some ⟨bo, 0, none⟩), .pointer (some ⟨bk, 0, none⟩), .pointer (some ⟨bv, 0, none⟩)] wi (PQ w wK bo bk bv B l.length cb (kidsL l) (out ++ sub c)))
    (hm : out.length + (x :: (kidsU l l.length x).flatMap sub).length ≤ 1000000) (hP : Pw w wK wi bo bk bv B l.length cb (kidsL l) Ao co out) :
    Calls Try.prog 37 #[.int .i64 x, .pointer (some ⟨bo, 0, none⟩), .pointer (some ⟨bk, 0, none⟩), .pointer (some ⟨bv, 0, none⟩)] wi (PQ w wK bo bk bv B l.length cb (kidsL l) (out ++ x :: (kidsU l l.length x).flatMap sub)) := by
  have x0 := hx.1
  have x1 : x < (l.length : Int) := hx.2
  have q1 := hP.co_
  have hol : out.length ≤ 1000000 := by omega
  have hlt1 := blk_lt' hP.ho
  have hlt2 := blk_lt' hP.hk
  have hlt3 := blk_lt' hP.hv
  have hsz := hP.bK.size
  obtain ⟨ad, A0, c0, eB, y5, y6, y7⟩ := at_L1 hP.C x x0 x1
  subst eB
  obtain ⟨row, hrow⟩ : ∃ row, kidsU l l.length x = row := ⟨_, rfl⟩
  rw [kids_at l hx, hrow] at y5 y6 y7
  have hrl : row.length ≤ 70 := by rw [← hrow]; have := kidsU_len l l.length x; omega
  rw [hrow] at hsub hm ⊢
  have hX := Aside0.mk (And.intro hx (And.intro hsub (And.intro hm hP)))
  have hY := Aside0.mk (And.intro y5 y7)
  clear hsub hm hP hx y5 y6 y7 hrow
  go_enter Try.func37, Try.ntmps37
  go_wp2_with (at_builtin; refine Kd.R_append (Kd.int .i64) (w0 := wi) 0 (by rfl) (.tmp 7) (.tmp 9) 28 3 (.int .i64 0) 8 (by rfl) Try.underlying28 info3 rfl (by decide) (by decide) (.slice Ao out.length co) out x [.int .i64 x] (fun k => wK.heap.size ≤ k ∧ k ≠ bo ∧ k ≠ bk ∧ k ≠ bv) (fun _ => False) (by rfl) (by rfl) (by rfl) (fun _ h => h.elim) (fun k hk => ⟨by omega, by omega, by omega, by omega⟩) hX.out.2.2.2.R ((Kp.refl (fun _ => False) wi).belowB (fun _ h => h.elim) (Nat.zero_le _)) (Nat.zero_le _) (by omega) ?_; intro v1 wa hRA hBA hgA hatA; obtain ⟨A1, c1, ev, _, _⟩ := Kd.R_reads hRA; subst ev; obtain ⟨z1, z2, z3⟩ := hX.out.2.2.2.app hgA hRA; rw [show (out ++ [x]).length = out.length + 1 from by rw [List.length_append]; rfl] at z3; have z4 := z3.ck_; have z5 := (z3.bK.cell (World.block_lt_of_cell? wK _ hY.out.1)).trans hY.out.1; have hI := Aside0.mk z3; clear hRA hBA hgA hatA z3)
  clear q1 z1 z2 z4 z5 hlt1 hlt2 hlt3 hsz hol
  go_loopg [16] row.length (fun q v wj => ∃ (j : Nat) (Ao : Option Addr) (co : Nat), j + q = row.length ∧ v = .int .i64 (j : Int) ∧ Aside0 (Pw w wK wj bo bk bv (some ad) l.length cb (kidsL l) Ao co (out ++ [x] ++ (row.take j).flatMap sub)))
  case atStart => exact ⟨0, A1, c1, by omega, rfl, ⟨by
    have h9 := hI.out
    simpa using h9⟩⟩
  case round =>
    obtain ⟨j, A2, c2, hj, rfl, hJ⟩ := hrel
    clear hI
    by_cases hltj : j < row.length
    · have hltji : (j : Int) < row.length := by omega
      obtain ⟨gk3, rfl⟩ : ∃ q, gk = q + 1 := ⟨gk - 1, by omega⟩
      have hj1 : j + 1 + gk3 = row.length := by omega
      have hgk3 : gk3 < gk3 + 1 := by omega
      obtain ⟨ar, eA, x0'⟩ := Kd.at_int (Kd.C_below hY.out.2 hJ.out.bK) (j : Int) (by omega) hltji
      rw [rd_get row j hltj, Int.toNat_natCast] at x0'
      subst eA
      have hsn : row.take (j + 1) = row.take j ++ [row[j]] := List.take_succ_eq_append_getElem hltj
      have hbnd : (out ++ [x] ++ (row.take j).flatMap sub).length + (sub row[j]).length ≤ 1000000 := by
        have h1 := hX.out.2.2.1
        have h2 : row = row.take (j + 1) ++ row.drop (j + 1) := (List.take_append_drop _ _).symm
        have h3 : (row.flatMap sub).length = ((row.take (j + 1)).flatMap sub).length + ((row.drop (j + 1)).flatMap sub).length := by
          rw [← List.length_append, ← List.flatMap_append, ← h2]
        rw [hsn, List.flatMap_append, List.length_append] at h3
        simp only [List.flatMap_cons, List.flatMap_nil, List.append_nil, List.length_append, List.length_cons, List.length_nil] at h1 h3 ⊢
        omega
      have hcall := hX.out.2.1 row[j] (List.getElem_mem hltj) wr A2 c2 _ hbnd hJ.out
      rw [show (out ++ [x] ++ (row.take j).flatMap sub) ++ sub row[j] = out ++ [x] ++ (row.take (j + 1)).flatMap sub by rw [hsn, List.flatMap_append, List.append_assoc]; simp] at hcall
      have hcall := Aside0.mk hcall
      obtain ⟨k, hk⟩ : ∃ k, k = row[j] := ⟨_, rfl⟩
      rw [← hk] at x0' hcall
      have q3 := hJ.out.cv_
      clear hk hsn hbnd hJ
      go_wp2_with fail
      refine hcall.out.mono ?_
      rintro e w9 ⟨rfl, A3, c3, hP3⟩
      have hI3 := Aside0.mk hP3
      clear hP3 hcall q3 x0'
      go_wp2_with fail
      go_roundg gk3
      case rel => exact ⟨j + 1, A3, c3, hj1, by go_num, hI3⟩
      case measure => exact hgk3
    · have hF : Aside0 (PQ w wK bo bk bv (some ad) l.length cb (kidsL l) (out ++ x :: row.flatMap sub) (.returned (.tuple #[])) wr) := ⟨rfl, A2, c2, by
        have h9 := hJ.out
        rw [List.take_of_length_le (by omega)] at h9
        simpa using h9⟩
      clear hJ
      go_wp2
      go_end0
      exact hF.out
theorem pre_visit (w wK : World) (bo bk bv : Nat) (B : Option Addr) (cb : Nat) (l : List Int) (hl : l.length ≤ 70) :
    ∀ (f : Nat) (x : Int) (k : Nat) (wi : World) (Ao : Option Addr) (co : Nat) (out : List Int), Up l x k → l.length ≤ k + 1 + f → out.length + (preF l f x).length ≤ 1000000 → Pw w wK wi bo bk bv B l.length cb (kidsL l) Ao co out →
    Calls Try.prog 37 #[.int .i64 x, .pointer (some ⟨bo, 0, none⟩), .pointer (some ⟨bk, 0, none⟩), .pointer (some ⟨bv, 0, none⟩)] wi (PQ w wK bo bk bv B l.length cb (kidsL l) (out ++ preF l f x)) := by
  intro f
  induction f with
  | zero =>
    intro x k wi Ao co out hu hn hm hP
    have hk0 : kidsU l l.length x = [] := by
      cases hks : kidsU l l.length x with
      | nil => rfl
      | cons c r => have := (kid_up hu (by rw [hks]; exact List.mem_cons_self)).lt; omega
    have h1 := pre_step w wK bo bk bv B cb l hl x hu.idx (fun _ => []) wi Ao co out (fun c hc => by rw [hk0] at hc; cases hc) (by rw [hk0]; rw [preF] at hm; simpa using hm) hP
    rw [hk0] at h1
    exact h1
  | succ f ih =>
    intro x k wi Ao co out hu hn hm hP
    exact pre_step w wK bo bk bv B cb l hl x hu.idx (preF l f) wi Ao co out (fun c hc wi Ao co out h1 h2 => ih c (k + 1) wi Ao co out (kid_up hu hc) (by omega) h1 h2) hm hP
end Go.Proofs.Ytbphjbfnnhfhlaa
end

section
/- Preorder. -/
set_option linter.unusedVariables false
set_option linter.unusedSimpArgs false
set_option linter.unusedSectionVars false
namespace Go.Proofs.Ytbphjbfnnhfhlaa
open Go.RowKit Go.Proofs.YtbphjbfnnhfhlaaW.PrintWords Go.Proofs.Ytbphjbfnnhfhlaa.PDigraphTells Mem

def preG (l : List Int) (i : Nat) : List Int := if rd l (i : Int) = (i : Int) then preF l (l.length - 1) (i : Int) else []
def preL (l : List Int) : List Int := (List.range l.length).flatMap (preG l)
theorem preG_len (l : List Int) (i : Nat) (h : i < l.length) : (preG l i).length ≤ l.length := by
  unfold preG
  split
  · rename_i e
    exact len_preF _ _ 0 (.root ⟨by omega, by omega⟩ e) (by omega)
  · simp
theorem preU_len (l : List Int) : ∀ i, i ≤ l.length → ((List.range i).flatMap (preG l)).length ≤ i * l.length := by
  intro i
  induction i with
  | zero => intro _; simp
  | succ i ih =>
    intro h
    have h1 := ih (by omega)
    have h2 := preG_len l i (by omega)
    rw [List.range_succ, List.flatMap_append, List.length_append, Nat.succ_mul]
    simp only [List.flatMap_cons, List.flatMap_nil, List.append_nil]
    omega
/-- What Preorder answers. -/
def OQ (l : List Int) (w : World) (e : Ending) (w' : World) : Prop := ∃ v o, e = .returned v ∧ Kd.R (Kd.int .i64) 3 w' 0 (fun k => w.heap.size ≤ k) v o ∧ ((Tree l ∧ o = preL l) ∨ (¬ Tree l ∧ o = [])) ∧ Below w.heap.size w w'

set_option maxRecDepth 100000 in
set_option maxHeartbeats 2000000 in
theorem preorder_any (A : Option Addr) (c : Nat) (l : List Int) (w : World) (hC : Kd.C (Kd.int .i64) w A l.length l) (hc : l.length ≤ c) (hl : l.length ≤ 70) :
    Calls Try.prog 17 #[.slice A l.length c] w (OQ l w) := by
  have hX := Aside0.mk (And.intro hC (And.intro hc hl))
  clear hC hc hl
  go_enter Try.func17, Try.ntmps17
  go_wp2_with fail
  refine (children_any A c l _ hX.out.1 hX.out.2.1 hX.out.2.2).mono ?_
  rintro e' w1 ⟨v, o, rfl, hS, hT, B1⟩
  obtain ⟨B, cb, ev, hx, Cx⟩ := Kd.S_reads hS
  subst ev
  have h1 := Aside0.mk (And.intro hT (And.intro B1 Cx))
  clear hS hT B1 Cx hx
  obtain ⟨X, hX1⟩ : ∃ X, X = ((w1.alloc (.cells #[.slice B o.length cb] 22 (0, 0))).alloc (.cells #[.slice none 0 0] 28 (0, 0))) := ⟨_, rfl⟩
  have hsz : X.heap.size = w1.heap.size + 1 + 1 := by rw [hX1]; simp
  have hnw := heap_alloc_new X (.cells #[.nilFunc] 51 (0, 0))
  rw [hsz] at hnw
  have q1 : (X.alloc (.cells #[.nilFunc] 51 (0, 0))).cell? ⟨w1.heap.size + 1 + 1, 0, none⟩ = some .nilFunc := cell_at hnw rfl
  have q2 : (X.alloc (.cells #[.nilFunc] 51 (0, 0))).frozen? ⟨w1.heap.size + 1 + 1, 0, none⟩ = false := free_at hnw 0
  rw [hX1] at q1 q2
  clear hnw
  go_upto_region 5 with (fail)
  clear q1 q2
  obtain ⟨bk, hbk⟩ : ∃ bk, bk = w1.heap.size := ⟨_, rfl⟩
  obtain ⟨bo, hbo⟩ : ∃ bo, bo = w1.heap.size + 1 := ⟨_, rfl⟩
  obtain ⟨bv, hbv⟩ : ∃ bv, bv = w1.heap.size + 1 + 1 := ⟨_, rfl⟩
  rw [← hbv, ← hbo, ← hbk, ← hX1]
  obtain ⟨w3, hw3⟩ : ∃ w3, w3 = X.alloc (.cells #[.func (.func 37) #[] #[.pointer (some ⟨bo, 0, none⟩), .pointer (some ⟨bk, 0, none⟩), .pointer (some ⟨bv, 0, none⟩)]] 51 (0, 0)) := ⟨_, rfl⟩
  rw [← hw3]
  have hP0 : Aside0 (Pw w w1 w3 bo bk bv B o.length cb o none 0 []) := ⟨by
    have hnw := heap_alloc_new X (.cells #[.func (.func 37) #[] #[.pointer (some ⟨bo, 0, none⟩), .pointer (some ⟨bk, 0, none⟩), .pointer (some ⟨bv, 0, none⟩)]] 51 (0, 0))
    have b13 : Below w1.heap.size w1 w3 := by rw [hw3, hX1]; exact below_alloc (below_alloc (below_alloc (Below.refl _ _) _) _) _
    have bX3 : Below X.heap.size X w3 := by rw [hw3]; exact below_alloc (Below.refl _ _) _
    have s1 := h1.out.2.1.size
    refine ⟨h1.out.2.1.trans (b13.mono s1), b13, h1.out.2.2, ?_, ?_, ?_, Kd.R_nil _ _ _ _ _, s1, by omega, by omega, by omega⟩
    · refine (bX3.block _ (by omega)).trans ?_
      rw [hX1, hbo]
      have h9 := heap_alloc_new (w1.alloc (.cells #[.slice B o.length cb] 22 (0, 0))) (.cells #[.slice none 0 0] 28 (0, 0))
      rw [World.size_alloc] at h9
      exact h9
    · refine (bX3.block _ (by omega)).trans ?_
      rw [hX1, hbk]
      exact ((below_alloc (Below.refl _ (w1.alloc _)) _).block _ (by simp)).trans (heap_alloc_new w1 _)
    · rw [hw3, hbv, ← hsz]
      rw [← hbv.trans hsz.symm]
      rw [hsz, ← hbv] at hnw
      exact hnw⟩
  clear hX1 hsz hbk hbo hbv hw3
  rcases h1.out.1 with ⟨hT, ho⟩ | ⟨hT, ho⟩
  · subst ho
    rw [kids_len] at hP0 ⊢
    have hT' := Aside0.mk hT
    have g1 := hP0.out.ck_
    have hI0 : Aside0 (Pw w w1 w3 bo bk bv B l.length cb (kidsL l) none 0 ((List.range 0).flatMap (preG l))) := ⟨hP0.out⟩
    clear hT hP0
    go_wp2_with fail
    clear g1
    go_loopg [12] l.length (fun q v wi => ∃ (i : Nat) (Ao : Option Addr) (co : Nat), i + q = l.length ∧ v = .int .i64 (i : Int) ∧ Aside0 (Pw w w1 wi bo bk bv B l.length cb (kidsL l) Ao co ((List.range i).flatMap (preG l))))
    case atStart => exact ⟨0, none, 0, by omega, rfl, hI0⟩
    case round =>
      obtain ⟨i, Ao, co, hi, rfl, hJ⟩ := hrel
      clear hI0
      by_cases hlt : i < l.length
      · have hlti : (i : Int) < l.length := by omega
        obtain ⟨gk1, rfl⟩ : ∃ q, gk = q + 1 := ⟨gk - 1, by omega⟩
        have hi1 : i + 1 + gk1 = l.length := by omega
        have hgk1 : gk1 < gk1 + 1 := by omega
        have hl70 : l.length ≤ 70 := hX.out.2.2
        obtain ⟨ad, eA, x0⟩ := Kd.at_int (Kd.C_below hX.out.1 hJ.out.b) (i : Int) (by omega) hlti
        subst eA
        rw [Int.toNat_natCast] at x0
        have hsn : (List.range (i + 1)).flatMap (preG l) = (List.range i).flatMap (preG l) ++ preG l i := by rw [List.range_succ, List.flatMap_append]; simp
        by_cases hroot : rd l (i : Int) = (i : Int)
        · have hul := preU_len l i (by omega)
          have hmul : i * l.length ≤ 70 * 70 := Nat.mul_le_mul (by omega) hl70
          have hgl := preG_len l i hlt
          have hgi : preG l i = preF l (l.length - 1) (i : Int) := by unfold preG; rw [if_pos hroot]
          have hcall := pre_visit w w1 bo bk bv B cb l hl70 (l.length - 1) (i : Int) 0 wr Ao co _ (.root ⟨by omega, hlti⟩ hroot) (by omega) (by rw [← hgi]; omega) hJ.out
          rw [← hgi, ← hsn] at hcall
          have hcall := Aside0.mk hcall
          rw [hroot] at x0
          have q3 := hJ.out.cv_
          have e1 : ((i : Int) == (i : Int)) = true := by simp
          clear hsn hul hmul hgl hgi hroot hJ
          go_wp2_with fail
          refine hcall.out.mono ?_
          rintro e w9 ⟨rfl, A3, c3, hP3⟩
          have hI3 := Aside0.mk hP3
          clear hP3 hcall q3 x0
          go_wp2_with fail
          go_roundg gk1
          case rel => exact ⟨i + 1, A3, c3, hi1, by go_num, hI3⟩
          case measure => exact hgk1
        · have hI3 : Aside0 (Pw w w1 wr bo bk bv B l.length cb (kidsL l) Ao co ((List.range (i + 1)).flatMap (preG l))) := ⟨by rw [hsn]; have : preG l i = [] := by { unfold preG; rw [if_neg hroot] }; rw [this, List.append_nil]; exact hJ.out⟩
          obtain ⟨p, hp⟩ : ∃ p, rd l (i : Int) = p := ⟨_, rfl⟩
          rw [hp] at x0 hroot
          have e1 : (p == (i : Int)) = false := by simpa using hroot
          clear hsn hJ hp hroot
          go_wp2_with fail
          go_roundg gk1
          case rel => exact ⟨i + 1, Ao, co, hi1, by go_num, hI3⟩
          case measure => exact hgk1
      · have hil : i = l.length := by omega
        have hF : Aside0 (OQ l w (.returned (.slice Ao ((List.range i).flatMap (preG l)).length co)) wr) := ⟨_, _, rfl, Kd.R_mono hJ.out.R (fun k hk => Nat.le_trans hJ.out.o1 hk.1), .inl ⟨hT'.out, by rw [hil]; rfl⟩, hJ.out.b⟩
        have q3 := hJ.out.co_
        obtain ⟨N, hN⟩ : ∃ N, ((List.range i).flatMap (preG l)).length = N := ⟨_, rfl⟩
        rw [hN] at q3 hF
        clear hJ hil hN
        go_wp2
        go_ret
        exact hF.out
  · subst ho
    have g1 := hP0.out.ck_
    have hI0 : Aside0 (OQ l w (.returned (.slice none 0 0)) w3) := ⟨_, [], rfl, Kd.R_nil _ _ _ _ _, .inr ⟨hT, rfl⟩, hP0.out.b⟩
    have g2 := hP0.out.co_
    clear hP0 hT
    go_wp2_with fail
    go_loopg [12] 0 (fun q v wi => v = .int .i64 0 ∧ Aside0 (OQ l w (.returned (.slice none 0 0)) wi) ∧ wi.cell? ⟨bo, 0, none⟩ = some (.slice none 0 0))
    case atStart => exact ⟨rfl, hI0, g2⟩
    case round =>
      obtain ⟨rfl, hJ, g3⟩ := hrel
      clear g1 g2
      go_wp2
      go_ret
      exact hJ.out
end Go.Proofs.Ytbphjbfnnhfhlaa
end

