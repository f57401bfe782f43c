/- An argument's reading opened by its kind: whole numbers, bools, strings, slices and structs of these, to any depth. -/
import Derived.Test.YtjkclhpibielfaaMem
import Derived.Test.YtjkclhpibielfaaRows
import Derived.WalkKit
import Derived.ProofKit
import Derived.OpenShut
import Derived.SizedLaws
import Derived.Deep.Slices
set_option linter.unusedVariables false
set_option linter.unusedSimpArgs false
namespace Go.Proofs.Ytjkclhpibielfaa.Opens
open Go.RowKit Go.Proofs.YtjkclhpibielfaaW.PrintWords Go.Proofs.Ytjkclhpibielfaa.Mem Go.Deep

variable {H : Type} {enc : TypeId × Value → H} {P : Program} {W : World}

/-- Whatever cells read as a datum of type t hold a value of kind d, which is good. -/
structure Op {α : Type} (enc : TypeId × Value → H) (P : Program) (W : World) (t : TypeId) (d : Kd α) (good : α → Prop) : Prop where
  op : ∀ {fuel : Nat} {cs : List Value} {x : DataW H × List MemPlace}, DataW.trod enc P W 0 (fun _ => true) true fuel t cs = some x → (∀ n ∈ x.1.weights P t, n ≤ reachBytes) → ∃ y, d.K W y cs ∧ good y

theorem Op.int {t : TypeId} {k : IntKind} (ht : P.underlying t = some (.int k)) : Op enc P W t (Kd.int k) (fun n => (Lit.int k n).wf = true) :=
  ⟨fun h _ => by
    obtain ⟨n, rfl, _, hw⟩ := DataW.trod_int ht h
    exact ⟨n, rfl, hw⟩⟩
theorem Op.bool {t : TypeId} (ht : P.underlying t = some .bool) : Op enc P W t Kd.bool (fun _ => True) :=
  ⟨fun h _ => by
    obtain ⟨n, rfl, _⟩ := DataW.trod_bool ht h
    exact ⟨n, rfl, trivial⟩⟩
theorem Op.string {t : TypeId} (ht : P.underlying t = some .string) : Op enc P W t Kd.string (fun s => s.size ≤ 140737488351232) :=
  ⟨fun h hw => by
    obtain ⟨s, rfl, rfl, _⟩ := DataW.trod_string ht h
    exact ⟨s, rfl, by simpa [DataW.weights, reachBytes] using hw⟩⟩

theorem cell_of_cells {w : World} {a : Addr} {n : Nat} {cs : List Value} (h : w.cells? 0 a n = some cs) : cs.length = n ∧ ∀ i u, cs[i]? = some u → w.cell? (a.add i) = some u := by
  unfold World.cells? at h
  rw [if_pos (Nat.zero_le _)] at h
  have key : ∀ (l : List Nat) (cs : List Value), l.mapM (fun i => w.cell? (a.add i)) = some cs → cs.length = l.length ∧ ∀ (i j : Nat) u, l[i]? = some j → cs[i]? = some u → w.cell? (a.add j) = some u := by
    intro l
    induction l with
    | nil =>
      intro cs h
      simp at h
      subst h
      simp
    | cons b r ih =>
      intro cs h
      simp only [List.mapM_cons, Option.bind_eq_bind, Option.bind_eq_some_iff] at h
      obtain ⟨v, hv, ys, hys, he⟩ := h
      obtain rfl : v :: ys = cs := by simpa using he
      obtain ⟨h1, h2⟩ := ih ys hys
      refine ⟨by simp [h1], fun i j u hi hu => ?_⟩
      cases i with
      | zero => simp at hi hu; subst hi; subst hu; exact hv
      | succ i => exact h2 i j u (by simpa using hi) (by simpa using hu)
  obtain ⟨h1, h2⟩ := key _ _ h
  refine ⟨by simpa using h1, fun i u hu => h2 i i u ?_ hu⟩
  have hl : i < cs.length := (List.getElem?_eq_some_iff.1 hu).1
  rw [h1] at hl
  simp at hl
  simp [hl]

theorem weights_all {e : TypeId} : ∀ (l : List (DataW H)) (n : Nat) (i : Nat) (d : DataW H), l[i]? = some d → n ∈ d.weights P e → n ∈ DataW.weightsAll P e l
  | [], _, _, _, h, _ => by simp at h
  | d0 :: r, n, 0, d, h, hn => by
    simp at h
    subst h
    rw [DataW.weightsAll]
    exact List.mem_append_left _ hn
  | d0 :: r, n, i + 1, d, h, hn => by
    rw [DataW.weightsAll]
    exact List.mem_append_right _ (weights_all r n i d (by simpa using h) hn)

theorem build {β : Type} {n : Nat} {p : Nat → β → Prop} (h : ∀ i, i < n → ∃ y, p i y) : ∃ xs : List β, xs.length = n ∧ ∀ i, i < n → ∃ y, xs[i]? = some y ∧ p i y := by
  induction n with
  | zero => exact ⟨[], rfl, fun i hi => by omega⟩
  | succ m ih =>
    obtain ⟨xs, h1, h2⟩ := ih (fun i hi => h i (by omega))
    obtain ⟨y, g⟩ := h m (by omega)
    refine ⟨xs ++ [y], by simp [h1], fun i hi => ?_⟩
    by_cases e : i < m
    · obtain ⟨y', h3, g'⟩ := h2 i e
      exact ⟨y', by rw [List.getElem?_append_left (by omega)]; exact h3, g'⟩
    · obtain rfl : i = m := by omega
      exact ⟨y, by rw [← h1]; simp, g⟩

theorem Op.slice {α : Type} {t e : TypeId} {d : Kd α} {good : α → Prop} {B : Nat} (h : Op enc P W e d good) (ht : P.underlying t = some (.slice e)) (hc : P.cellsOf e = d.sz) (hB : P.bytesOf e = B) :
    Op enc P W t (Kd.slice e d) (fun xs => xs.length * B ≤ 140737488351232 ∧ ∀ x ∈ xs, good x) := by
  refine ⟨fun {fuel cs x} hx hw => ?_⟩
  rcases DataW.trod_slice ht hx with ⟨rfl, rfl⟩ | ⟨a, len, cap, elems, rest, n, rfl, rfl, rfl, _, hl, hm, hel, hcell, _, _⟩
  · exact ⟨[], ⟨none, 0, rfl, Nat.le_refl _, Kd.C_nil d W⟩, by simp, fun x hx => by simp at hx⟩
  · have hsz : (elems.length + rest.length) * B ≤ 140737488351232 := by
      have := hw ((elems.length + rest.length) * P.bytesOf e) (by simp [DataW.weights, ht])
      simpa [hB, reachBytes] using this
    have each : ∀ i, i < len → ∃ y c, c.length = d.sz ∧ (∀ j u, c[j]? = some u → W.cell? ((a.add (i * d.sz)).add j) = some u) ∧ d.K W y c ∧ good y := by
      intro i hi
      have h1 := hcell i hi
      have hi2 : i < elems.length := by omega
      rw [List.getElem?_eq_getElem hi2, Option.bind_eq_some_iff] at h1
      obtain ⟨c, hc1, hc2⟩ := h1
      obtain ⟨y, hy, hg⟩ := h.op hc2 (fun n hn => hw n (by
        simp only [DataW.weights, ht]
        refine List.mem_cons_of_mem _ (List.mem_append_left _ (weights_all _ n i elems[i].1 ?_ hn))
        simp [hi2]))
      rw [hc] at hc1
      obtain ⟨g1, g2⟩ := cell_of_cells hc1
      exact ⟨y, c, g1, g2, hy, hg⟩
    have hxs : ∃ xs : List α, xs.length = len ∧ ∀ i, i < len → ∃ y, xs[i]? = some y ∧ ∃ c, c.length = d.sz ∧ (∀ j u, c[j]? = some u → W.cell? ((a.add (i * d.sz)).add j) = some u) ∧ d.K W y c ∧ good y := build each
    obtain ⟨xs, h1, h2⟩ := hxs
    refine ⟨xs, ⟨some a, cap, by rw [h1], by omega, ?_⟩, ?_, ?_⟩
    · refine ⟨rfl, by rw [h1]; unfold maxLen at hm; omega, fun _ => ⟨a, rfl, fun j p hj => ?_⟩⟩
      have hjl : j < len := by
        have := (List.getElem?_eq_some_iff.1 hj).1
        omega
      obtain ⟨y, e1, c, g1, g2, g3, g4⟩ := h2 j hjl
      rw [hj] at e1
      injection e1 with e1
      subst e1
      refine ⟨c, g1, g3, fun i u hu => ?_⟩
      have := g2 i u hu
      rwa [Go.Deep.add_add] at this
    · refine Nat.le_trans (Nat.mul_le_mul_right _ ?_) hsz
      omega
    · intro x hx
      obtain ⟨i, hi, rfl⟩ := List.getElem_of_mem hx
      obtain ⟨y, e1, c, g1, g2, g3, g4⟩ := h2 i (by omega)
      rw [List.getElem?_eq_getElem hi] at e1
      injection e1 with e1
      exact e1 ▸ g4

/-- The fields fs of a struct, from the cell at off on, hold a value of kind d. -/
structure Fs {α : Type} (enc : TypeId × Value → H) (P : Program) (W : World) (fs : List Field) (off : Nat) (d : Kd α) (good : α → Prop) : Prop where
  op : ∀ {fuel : Nat} {cs : List Value} {xs : List (DataW H × List MemPlace)}, xs.length = fs.length → (∀ (i : Nat) (f : Field), fs[i]? = some f → DataW.trod enc P W 0 (fun _ => true) true fuel f.type ((cs.drop f.offset).take (P.cellsOf f.type)) = xs[i]?) →
    (∀ n ∈ DataW.weightsEach P (fs.map (·.type)) (xs.map (·.1)), n ≤ reachBytes) → ∃ y, d.K W y ((cs.drop off).take d.sz) ∧ good y

theorem Fs.one {α : Type} {f : Field} {d : Kd α} {good : α → Prop} (h : Op enc P W f.type d good) (hc : P.cellsOf f.type = d.sz) : Fs enc P W [f] f.offset d good := by
  refine ⟨fun {fuel cs xs} hl hx hw => ?_⟩
  match xs, hl with
  | [x], _ =>
    have h1 := hx 0 f rfl
    obtain ⟨y, hy, hg⟩ := h.op h1 (fun n hn => hw n (by simp [DataW.weightsEach, hn]))
    rw [hc] at hy
    exact ⟨y, hy, hg⟩
theorem Fs.cons {α β : Type} {f : Field} {fs : List Field} {a : Kd α} {b : Kd β} {ga : α → Prop} {gb : β → Prop} {off : Nat} (h : Op enc P W f.type a ga) (k : Fs enc P W fs off b gb) (hc : P.cellsOf f.type = a.sz) (ho : off = f.offset + a.sz) :
    Fs enc P W (f :: fs) f.offset (Kd.pair a b) (fun x => ga x.1 ∧ gb x.2) := by
  refine ⟨fun {fuel cs xs} hl hx hw => ?_⟩
  match xs, hl with
  | x :: r, hl =>
    have h1 := hx 0 f rfl
    obtain ⟨y, hy, hg⟩ := h.op h1 (fun n hn => hw n (by simp [DataW.weightsEach, hn]))
    obtain ⟨z, hz, hgz⟩ := k.op (cs := cs) (xs := r) (by simpa using hl) (fun i f' hf => by simpa using hx (i + 1) f' (by simpa using hf)) (fun n hn => hw n (by
      simp only [List.map_cons, DataW.weightsEach]
      exact List.mem_append_right _ hn))
    rw [hc] at hy
    refine ⟨(y, z), ⟨_, _, ?_, hy, hz⟩, hg, hgz⟩
    rw [ho, ← List.drop_drop]
    show List.take (a.sz + b.sz) _ = _
    rw [List.take_add]
theorem Op.struct {α β : Type} {t : TypeId} {fs : Array Field} {l : List Field} {d : Kd α} {good : α → Prop} (h : Fs enc P W l 0 d good) (ht : P.underlying t = some (.struct fs)) (hl : fs.toList = l) (hc : P.cellsOf t = d.sz) (f : β → α) (g : α → β) (hfg : ∀ z, f (g z) = z) :
    Op enc P W t (Kd.iso d f) (fun y => good (f y)) := by
  refine ⟨fun {fuel cs x} hx hw => ?_⟩
  obtain ⟨xs, n, rfl, rfl, hcs, hxl, hall⟩ := DataW.trod_struct ht hx
  obtain ⟨y, hy, hg⟩ := h.op (fuel := n) (cs := cs) (xs := xs) (by rw [← hl]; simpa using hxl) (fun i f' hf => hall i f' (by rw [← hl] at hf; simpa using hf)) (fun n hn => hw n (by simpa [DataW.weights, ht, hl] using hn))
  refine ⟨g y, ?_, by rw [hfg]; exact hg⟩
  show d.K W (f (g y)) cs
  rw [hfg]
  have e : (cs.drop 0).take d.sz = cs := by rw [List.drop_zero, ← hc, ← hcs, List.take_length]
  rwa [e] at hy
theorem Op.imp {α : Type} {t : TypeId} {d : Kd α} {good good' : α → Prop} (h : Op enc P W t d good) (hg : ∀ x, good x → good' x) : Op enc P W t d good' := ⟨fun hx hw => by
  obtain ⟨y, hy, hgy⟩ := h.op hx hw
  exact ⟨y, hy, hg y hgy⟩⟩

/-- An argument that is a slice. -/
theorem Op.arg_slice {α : Type} {t e : TypeId} {d : Kd α} {good : List α → Prop} {v : Value} {x : DataW H} {p : List MemPlace} (h : Op enc P W t (Kd.slice e d) good) (hv : ∃ a len cap, v = .slice a len cap) (hx : DataW.Trod enc P W 0 (fun _ => true) true t v x p)
    (hw : ∀ n ∈ x.weights P t, n ≤ reachBytes) : ∃ A c xs, v = .slice A xs.length c ∧ xs.length ≤ c ∧ d.C W A xs.length xs ∧ good xs := by
  obtain ⟨a, len, cap, rfl⟩ := hv
  obtain ⟨fuel, hf⟩ := hx
  obtain ⟨y, ⟨A, c, he, hle, hC⟩, hg⟩ := h.op hf hw
  simp [Value.cells] at he
  obtain ⟨rfl, rfl, rfl⟩ := he
  exact ⟨_, _, y, rfl, hle, hC, hg⟩
/-- An argument that is a struct. -/
theorem Op.arg_agg {α : Type} {t : TypeId} {d : Kd α} {good : α → Prop} {v : Value} {x : DataW H} {p : List MemPlace} (h : Op enc P W t d good) (hv : ∃ cs, v = .agg cs) (hx : DataW.Trod enc P W 0 (fun _ => true) true t v x p)
    (hw : ∀ n ∈ x.weights P t, n ≤ reachBytes) : ∃ y cs, v = .agg cs ∧ d.K W y cs.toList ∧ good y := by
  obtain ⟨cs, rfl⟩ := hv
  obtain ⟨fuel, hf⟩ := hx
  obtain ⟨y, hy, hg⟩ := h.op hf hw
  exact ⟨y, cs, rfl, by simpa [Value.cells] using hy, hg⟩
theorem weight_of {ts : List TypeId} {ds : List (DataW H)} (h : (DataW.weightsEach P ts ds).all (· ≤ reachBytes) = true) {j : Nat} {t : TypeId} {d : DataW H} (ht : ts[j]? = some t) (hd : ds[j]? = some d) : ∀ n ∈ d.weights P t, n ≤ reachBytes :=
  fun n hn => by simpa using List.all_eq_true.1 h n (DataW.weights_mem_each ht hd n hn)
end Go.Proofs.Ytjkclhpibielfaa.Opens
