/- The four sets of a round of BitsetOps. -/
import Derived.Test.YtibjpamnkhnagaaDoorSetO
set_option linter.unusedVariables false
set_option linter.unusedSimpArgs false
namespace Go.Proofs.YtibjpamnkhnagaaDoor
open Go.RowKit Go.Proofs.YtibjpamnkhnagaaDoorW.PrintWords Mem Bit

theorem new_st (n : Int) (w : World) : Calls Tryd.prog 15 #[.int .i64 n] w fun e w' => ∃ v, e = .returned (.pointer v) ∧ PS w' (fun k => w.heap.size ≤ k) v (newO n) ∧ Kp (fun _ => False) w w' ∧ v.isSome = (newO n).isSome := by
  unfold newO
  by_cases h : n < 0 ∨ 65536 < n
  · rw [if_pos h]
    refine (new_bad n w h).mono ?_
    rintro e w' ⟨rfl, rfl⟩
    exact ⟨_, rfl, PS.none_ _ _, Kp.refl _ _, rfl⟩
  · rw [if_neg h]
    obtain ⟨m, rfl⟩ := Int.eq_ofNat_of_zero_le (show 0 ≤ n by omega)
    refine (new_ok m w (by omega)).mono ?_
    rintro e w' ⟨p, rfl, hB, hK⟩
    exact ⟨_, rfl, PS.set_ (by simpa using hB), hK, rfl⟩
theorem lenO_new (n : Int) : lenO (newO n) ≤ 65536 := by
  unfold newO
  split
  · simp [lenO]
  · simp [lenO]; omega
theorem lenO_set (o : Option (List Bool)) (i : Int) (b : Bool) : lenO (setO o i b) = lenO o := by
  cases o with
  | none => rfl
  | some bs =>
    show (if 0 ≤ i then bs.set i.toNat b else bs).length = bs.length
    split
    · exact List.length_set
    · rfl
theorem lenO_of (n : Int) (l : List Int) : lenO (ofO n l) ≤ 65536 := by
  unfold ofO addAll
  have : ∀ (l : List Int) (o : Option (List Bool)), lenO (l.foldl (fun o i => setO o i true) o) = lenO o := by
    intro l
    induction l with
    | nil => intro o; rfl
    | cons x l ih => intro o; rw [List.foldl_cons, ih, lenO_set]
  rw [this]
  exact lenO_new n
theorem lenO_op (op : BinOp) (o1 o2 : Option (List Bool)) : lenO (opO op o1 o2) = lenO o1 := by
  cases o1 with
  | none => cases o2 <;> rfl
  | some a =>
    cases o2 with
    | none => rfl
    | some b =>
      show lenO (if a.length = b.length then some (zipB op a b) else some a) = lenO (some a)
      split
      · rename_i h
        exact zipB_length op a b h
      · rfl

/-- What holds between two rounds. -/
structure Iv (w W : World) (s t : Option Addr) : Prop where
  ex : ∃ (S T : Nat → Prop) (o : Option (List Bool)), (∀ k, S k → w.heap.size ≤ k ∧ k < W.heap.size) ∧ (∀ k, T k → w.heap.size ≤ k ∧ k < W.heap.size) ∧ (∀ k, S k → ¬ T k) ∧ PS W S s o ∧ RP W T t o ∧ lenO o ≤ 65536
  below : Below w.heap.size w W
/-- Within a round: the sets s, t, a, b and the step's own block xb. -/
structure Rd (w W : World) (xb : Nat) (X : Obj) (s t a b : Option Addr) (os ot o2 : Option (List Bool)) : Prop where
  ex : ∃ S T A B : Nat → Prop, (∀ k, S k → w.heap.size ≤ k ∧ k < W.heap.size ∧ k ≠ xb) ∧ (∀ k, T k → w.heap.size ≤ k ∧ k < W.heap.size ∧ k ≠ xb) ∧ (∀ k, A k → w.heap.size ≤ k ∧ k < W.heap.size) ∧ (∀ k, B k → w.heap.size ≤ k ∧ k < W.heap.size) ∧
    (∀ k, S k → ¬ T k ∧ ¬ A k ∧ ¬ B k) ∧ (∀ k, T k → ¬ A k ∧ ¬ B k) ∧ PS W S s os ∧ RP W T t ot ∧ PS W A a o2 ∧ RP W B b o2
  ls : lenO os ≤ 65536
  lt : lenO ot ≤ 65536
  l2 : lenO o2 ≤ 65536
  xo : W.heap[xb]? = some X
  xlo : w.heap.size ≤ xb
  below : Below w.heap.size w W
  db : DB w
section
variable {w W W' : World} {xb : Nat} {X : Obj} {s t a b : Option Addr} {os ot o2 o' : Option (List Bool)}
theorem Rd.step (h : Rd w W xb X s t a b os ot o2) (hb : Below W.heap.size W W') : Rd w W' xb X s t a b os ot o2 := by
  obtain ⟨S, T, A, B, hS, hT, hA, hB, d1, d2, p1, p2, p3, p4⟩ := h.ex
  have hs := hb.size
  exact ⟨⟨S, T, A, B, fun k hk => ⟨(hS k hk).1, by have := (hS k hk).2.1; omega, (hS k hk).2.2⟩, fun k hk => ⟨(hT k hk).1, by have := (hT k hk).2.1; omega, (hT k hk).2.2⟩, fun k hk => ⟨(hA k hk).1, by have := (hA k hk).2; omega⟩, fun k hk => ⟨(hB k hk).1, by have := (hB k hk).2; omega⟩, d1, d2,
    p1.step (fun k _ hk => hb.block k hk), p2.step (fun k _ hk => hb.block k hk), p3.step (fun k _ hk => hb.block k hk), p4.step (fun k _ hk => hb.block k hk)⟩, h.ls, h.lt, h.l2, (hb.block xb (blk_lt' h.xo)).trans h.xo, h.xlo, h.below.trans (hb.mono h.below.size), h.db⟩
theorem Rd.drewN (h : Rd w W xb X s t a b os ot o2) (q : Nat) : Rd w (W.drewN q) xb X s t a b os ot o2 := h.step (pw_below_drewN (Below.refl _ _) q)
theorem Rd.end_ (h : Rd w W xb X s t a b o' o' o2) : Iv w W s t := by
  obtain ⟨S, T, A, B, hS, hT, hA, hB, d1, d2, p1, p2, p3, p4⟩ := h.ex
  exact ⟨⟨S, T, o', fun k hk => ⟨(hS k hk).1, (hS k hk).2.1⟩, fun k hk => ⟨(hT k hk).1, (hT k hk).2.1⟩, fun k hk => (d1 k hk).1, p1, p2, h.ls⟩, h.below⟩
theorem Iv.step (h : Iv w W s t) (hb : Below W.heap.size W W') : Iv w W' s t := by
  obtain ⟨S, T, o, hS, hT, d, p1, p2, l⟩ := h.ex
  have hs := hb.size
  exact ⟨⟨S, T, o, fun k hk => ⟨(hS k hk).1, by have := (hS k hk).2; omega⟩, fun k hk => ⟨(hT k hk).1, by have := (hT k hk).2; omega⟩, d, p1.step (fun k _ hk => hb.block k hk), p2.step (fun k _ hk => hb.block k hk), l⟩, h.below.trans (hb.mono h.below.size)⟩
theorem Iv.start {w1 w2 : World} {n : Int} (h1 : PS w1 (fun k => w.heap.size ≤ k) s (newO n)) (k1 : Kp (fun _ => False) w w1) (h2 : RP w2 (fun k => w1.heap.size ≤ k) t (newO n)) (k2 : Kp (fun _ => False) w1 w2) : Iv w w2 s t := by
  have s1 := k1.size
  have s2 := k2.size
  refine ⟨⟨rng w.heap.size w1.heap.size, rng w1.heap.size w2.heap.size, newO n, fun k hk => ⟨hk.1, by have := hk.2; omega⟩, fun k hk => ⟨by have := hk.1; omega, hk.2⟩, fun k h1 h2 => by have := h1.2; have := h2.1; omega, ?_, h2.here, lenO_new n⟩, k1.none_below.trans (k2.none_below.mono k1.none_below.size)⟩
  exact (h1.bound.mono (fun k hk => ⟨hk.1, hk.2⟩)).step (fun k hk hlt => k2.block hlt (fun h => h))
theorem Iv.made {w1 w2 : World} {x : Array Value} {ty : TypeId} {n : Int} {l : List Int} (h : Iv w W s t) (hD : DB w) (h1 : PS w1 (fun k => (W.alloc (.cells x ty)).heap.size ≤ k) a (ofO n l)) (k1 : Kp (fun _ => False) (W.alloc (.cells x ty)) w1) (h2 : RP w2 (fun k => w1.heap.size ≤ k) b (ofO n l)) (k2 : Kp (fun _ => False) w1 w2) :
    ∃ o, Rd w w2 W.heap.size (.cells x ty (0, 0)) s t a b o o (ofO n l) := by
  obtain ⟨S, T, o, hS, hT, d, p1, p2, l1⟩ := h.ex
  have s0 : (W.alloc (.cells x ty)).heap.size = W.heap.size + 1 := by simp
  have s1 := k1.size
  have s2 := k2.size
  have hb : Below W.heap.size W w2 := (below_alloc (Below.refl _ W) (.cells x ty)).trans ((k1.none_below.trans (k2.none_below.mono s1)).mono (by omega))
  have hlo := h.below.size
  refine ⟨o, ⟨S, T, rng (W.heap.size + 1) w1.heap.size, rng w1.heap.size w2.heap.size, fun k hk => ⟨(hS k hk).1, by have := (hS k hk).2; omega, by have := (hS k hk).2; omega⟩, fun k hk => ⟨(hT k hk).1, by have := (hT k hk).2; omega, by have := (hT k hk).2; omega⟩, fun k hk => ⟨by have := hk.1; omega, by have := hk.2; omega⟩, fun k hk => ⟨by have := hk.1; omega, hk.2⟩,
    fun k hk => ⟨d k hk, fun h5 => by have := h5.1; have := (hS k hk).2; omega, fun h5 => by have := h5.1; have := (hS k hk).2; omega⟩, fun k hk => ⟨fun h5 => by have := h5.1; have := (hT k hk).2; omega, fun h5 => by have := h5.1; have := (hT k hk).2; omega⟩,
    p1.step (fun k _ hk => hb.block k hk), p2.step (fun k _ hk => hb.block k hk), ?_, h2.here⟩, l1, l1, lenO_of _ _, ?_, hlo, h.below.trans (hb.mono hlo), hD⟩
  · exact (h1.bound.mono (fun k hk => ⟨by have := hk.1; omega, hk.2⟩)).step (fun k hk hlt => k2.block hlt (fun h => h))
  · have e := heap_alloc_new W (.cells x ty)
    exact (k2.block (by omega) (fun h => h)).trans ((k1.block (by omega) (fun h => h)).trans e)

theorem Rd.onS {f : FuncId} {args : Array Value} {P : Ending → Prop} (h : Rd w W xb X s t a b os ot o2) (hl : lenO o' ≤ 65536)
    (hc : ∀ S A, PS W S s os → PS W A a o2 → (∀ k, A k → ¬ S k) → Calls Tryd.prog f args W fun e w' => P e ∧ PS w' S s o' ∧ Kp S W w') :
    Calls Tryd.prog f args W fun e w' => P e ∧ Rd w w' xb X s t a b o' ot o2 := by
  obtain ⟨S, T, A, B, hS, hT, hA, hB, d1, d2, p1, p2, p3, p4⟩ := h.ex
  refine (hc S A p1 p3 (fun k h1 h2 => (d1 k h2).2.1 h1)).mono ?_
  rintro e w' ⟨hP, q1, hK⟩
  have hs := hK.size
  have p1' := q1.bound
  have hlo := h.below.size
  refine ⟨hP, ⟨S, T, A, B, fun k hk => ⟨(hS k hk).1, by have := (hS k hk).2.1; omega, (hS k hk).2.2⟩, fun k hk => ⟨(hT k hk).1, by have := (hT k hk).2.1; omega, (hT k hk).2.2⟩, fun k hk => ⟨(hA k hk).1, by have := (hA k hk).2; omega⟩, fun k hk => ⟨(hB k hk).1, by have := (hB k hk).2; omega⟩, d1, d2,
    q1, p2.step (fun k h1 hk => hK.block hk (fun h2 => (d1 k h2).1 h1)), p3.step (fun k h1 hk => hK.block hk (fun h2 => (d1 k h2).2.1 h1)), p4.step (fun k h1 hk => hK.block hk (fun h2 => (d1 k h2).2.2 h1))⟩, hl, h.lt, h.l2, hK.blk h.xo (fun h2 => (hS _ h2).2.2 rfl), h.xlo, h.below.trans (hK.belowB (fun k hk => (hS k hk).1) hlo), h.db⟩
theorem Rd.onT {f : FuncId} {args : Array Value} {P : Ending → Prop} (h : Rd w W xb X s t a b os ot o2) (hl : lenO o' ≤ 65536)
    (hc : ∀ T B, RP W T t ot → RP W B b o2 → (∀ k, B k → ¬ T k) → Calls Tryd.prog f args W fun e w' => P e ∧ RP w' T t o' ∧ Kp T W w') :
    Calls Tryd.prog f args W fun e w' => P e ∧ Rd w w' xb X s t a b os o' o2 := by
  obtain ⟨S, T, A, B, hS, hT, hA, hB, d1, d2, p1, p2, p3, p4⟩ := h.ex
  refine (hc T B p2 p4 (fun k h1 h2 => (d2 k h2).2 h1)).mono ?_
  rintro e w' ⟨hP, q1, hK⟩
  have hs := hK.size
  have hlo := h.below.size
  refine ⟨hP, ⟨S, T, A, B, fun k hk => ⟨(hS k hk).1, by have := (hS k hk).2.1; omega, (hS k hk).2.2⟩, fun k hk => ⟨(hT k hk).1, by have := (hT k hk).2.1; omega, (hT k hk).2.2⟩, fun k hk => ⟨(hA k hk).1, by have := (hA k hk).2; omega⟩, fun k hk => ⟨(hB k hk).1, by have := (hB k hk).2; omega⟩, d1, d2,
    p1.step (fun k h1 hk => hK.block hk (fun h2 => (d1 k h1).1 h2)), q1, p3.step (fun k h1 hk => hK.block hk (fun h2 => (d2 k h2).1 h1)), p4.step (fun k h1 hk => hK.block hk (fun h2 => (d2 k h2).2 h1))⟩, h.ls, hl, h.l2, hK.blk h.xo (fun h2 => (hT _ h2).2.2 rfl), h.xlo, h.below.trans (hK.belowB (fun k hk => (hT k hk).1) hlo), h.db⟩
theorem Rd.cloneS (h : Rd w W xb X s t a b os ot o2) : Calls Tryd.prog 9 #[.pointer s] W fun e w' => ∃ s', e = .returned (.pointer s') ∧ Rd w w' xb X s' t a b os ot o2 := by
  obtain ⟨S, T, A, B, hS, hT, hA, hB, d1, d2, p1, p2, p3, p4⟩ := h.ex
  refine (clone_any s S os W p1).mono ?_
  rintro e w' ⟨s', rfl, q1, hK⟩
  have hb := hK.none_below
  have hs := hK.size
  have hlo := h.below.size
  have hx := blk_lt' h.xo
  exact ⟨s', rfl, ⟨rng W.heap.size w'.heap.size, T, A, B, fun k hk => ⟨by have := hk.1; omega, hk.2, by have := hk.1; omega⟩, fun k hk => ⟨(hT k hk).1, by have := (hT k hk).2.1; omega, (hT k hk).2.2⟩, fun k hk => ⟨(hA k hk).1, by have := (hA k hk).2; omega⟩, fun k hk => ⟨(hB k hk).1, by have := (hB k hk).2; omega⟩,
    fun k hk => ⟨fun h5 => by have := hk.1; have := (hT k h5).2.1; omega, fun h5 => by have := hk.1; have := (hA k h5).2; omega, fun h5 => by have := hk.1; have := (hB k h5).2; omega⟩, d2,
    q1.bound.mono (fun k hk => ⟨hk.1, hk.2⟩), p2.step (fun k _ hk => hb.block k hk), p3.step (fun k _ hk => hb.block k hk), p4.step (fun k _ hk => hb.block k hk)⟩, h.ls, h.lt, h.l2, (hb.block xb hx).trans h.xo, h.xlo, h.below.trans (hb.mono hlo), h.db⟩
theorem Rd.cloneT (h : Rd w W xb X s t a b os ot o2) : Calls Tryd.prog 27 #[.pointer t] W fun e w' => ∃ t', e = .returned (.pointer t') ∧ Rd w w' xb X s t' a b os ot o2 := by
  obtain ⟨S, T, A, B, hS, hT, hA, hB, d1, d2, p1, p2, p3, p4⟩ := h.ex
  refine (rclone_any t T ot W p2).mono ?_
  rintro e w' ⟨t', rfl, q1, hK⟩
  have hb := hK.none_below
  have hs := hK.size
  have hlo := h.below.size
  have hx := blk_lt' h.xo
  exact ⟨t', rfl, ⟨S, rng W.heap.size w'.heap.size, A, B, fun k hk => ⟨(hS k hk).1, by have := (hS k hk).2.1; omega, (hS k hk).2.2⟩, fun k hk => ⟨by have := hk.1; omega, hk.2, by have := hk.1; omega⟩, fun k hk => ⟨(hA k hk).1, by have := (hA k hk).2; omega⟩, fun k hk => ⟨(hB k hk).1, by have := (hB k hk).2; omega⟩,
    fun k hk => ⟨fun h5 => by have := h5.1; have := (hS k hk).2.1; omega, (d1 k hk).2.1, (d1 k hk).2.2⟩, fun k hk => ⟨fun h5 => by have := hk.1; have := (hA k h5).2; omega, fun h5 => by have := hk.1; have := (hB k h5).2; omega⟩,
    p1.step (fun k _ hk => hb.block k hk), q1.here, p3.step (fun k _ hk => hb.block k hk), p4.step (fun k _ hk => hb.block k hk)⟩, h.ls, h.lt, h.l2, (hb.block xb hx).trans h.xo, h.xlo, h.below.trans (hb.mono hlo), h.db⟩
theorem Rd.same1 (h : Rd w W xb X s t a b o' o' o2) : Calls Tryd.prog 28 #[.pointer s, .pointer t] W fun e w' => e = .returned (.bool true) ∧ Rd w w' xb X s t a b o' o' o2 := by
  obtain ⟨S, T, A, B, hS, hT, hA, hB, d1, d2, p1, p2, p3, p4⟩ := h.ex
  refine (same_any s t o' W (p1.mono (fun k hk => (hS k hk).2.1)) (p2.mono (fun k hk => (hT k hk).2.1)) h.ls (h.db.below h.below)).mono ?_
  rintro e w' ⟨rfl, hb⟩
  exact ⟨rfl, h.step hb⟩
theorem Rd.same2 (h : Rd w W xb X s t a b o' o' o2) : Calls Tryd.prog 28 #[.pointer a, .pointer b] W fun e w' => e = .returned (.bool true) ∧ Rd w w' xb X s t a b o' o' o2 := by
  obtain ⟨S, T, A, B, hS, hT, hA, hB, d1, d2, p1, p2, p3, p4⟩ := h.ex
  refine (same_any a b o2 W (p3.mono (fun k hk => (hA k hk).2)) (p4.mono (fun k hk => (hB k hk).2)) h.l2 (h.db.below h.below)).mono ?_
  rintro e w' ⟨rfl, hb⟩
  exact ⟨rfl, h.step hb⟩
theorem Rd.eq_sa (h : Rd w W xb X s t a b o' o' o2) : Calls Tryd.prog 10 #[.pointer s, .pointer a] W fun e w' => e = .returned (.bool (decide (o' = o2))) ∧ Rd w w' xb X s t a b o' o' o2 := by
  obtain ⟨S, T, A, B, hS, hT, hA, hB, d1, d2, p1, p2, p3, p4⟩ := h.ex
  refine (equal_any s a S A o' o2 W p1 p3).mono ?_
  rintro e w' ⟨rfl, q, rfl⟩
  exact ⟨rfl, h.drewN q⟩
theorem Rd.eq_as (h : Rd w W xb X s t a b o' o' o2) : Calls Tryd.prog 10 #[.pointer a, .pointer s] W fun e w' => e = .returned (.bool (decide (o2 = o'))) ∧ Rd w w' xb X s t a b o' o' o2 := by
  obtain ⟨S, T, A, B, hS, hT, hA, hB, d1, d2, p1, p2, p3, p4⟩ := h.ex
  refine (equal_any a s A S o2 o' W p3 p1).mono ?_
  rintro e w' ⟨rfl, q, rfl⟩
  exact ⟨rfl, h.drewN q⟩
theorem Rd.eq_tb (h : Rd w W xb X s t a b o' o' o2) : Calls Tryd.prog 29 #[.pointer t, .pointer b] W fun e w' => e = .returned (.bool (decide (o' = o2))) ∧ Rd w w' xb X s t a b o' o' o2 := by
  obtain ⟨S, T, A, B, hS, hT, hA, hB, d1, d2, p1, p2, p3, p4⟩ := h.ex
  refine (requal_any t b T B o' o2 W p2 p4).mono ?_
  rintro e w' ⟨rfl, q, rfl⟩
  exact ⟨rfl, h.drewN q⟩
theorem Rd.eq_bt (h : Rd w W xb X s t a b o' o' o2) : Calls Tryd.prog 29 #[.pointer b, .pointer t] W fun e w' => e = .returned (.bool (decide (o2 = o'))) ∧ Rd w w' xb X s t a b o' o' o2 := by
  obtain ⟨S, T, A, B, hS, hT, hA, hB, d1, d2, p1, p2, p3, p4⟩ := h.ex
  refine (requal_any b t B T o2 o' W p4 p2).mono ?_
  rintro e w' ⟨rfl, q, rfl⟩
  exact ⟨rfl, h.drewN q⟩
theorem Rd.hasS (h : Rd w W xb X s t a b os ot o2) (i : Int) : Calls Tryd.prog 11 #[.pointer s, .int .i64 i] W fun e w' => e = .returned (.bool (hasO os i)) ∧ Rd w w' xb X s t a b os ot o2 := by
  obtain ⟨S, T, A, B, hS, hT, hA, hB, d1, d2, p1, p2, p3, p4⟩ := h.ex
  refine (has_any s S os i W p1).mono ?_
  rintro e w' ⟨rfl, q, rfl⟩
  exact ⟨rfl, h.drewN q⟩
theorem Rd.hasT (h : Rd w W xb X s t a b os ot o2) (i : Int) : Calls Tryd.prog 20 #[.pointer t, .int .i64 i] W fun e w' => e = .returned (.bool (hasO ot i)) ∧ Rd w w' xb X s t a b os ot o2 := by
  obtain ⟨S, T, A, B, hS, hT, hA, hB, d1, d2, p1, p2, p3, p4⟩ := h.ex
  refine (rhas_any t T ot i W p2).mono ?_
  rintro e w' ⟨rfl, rfl⟩
  exact ⟨rfl, h⟩
theorem Rd.cell (h : Rd w W xb X s t a b os ot o2) (x : Array Value) (ty : TypeId) (hX : X = .cells x ty (0, 0)) (j : Nat) (v : Value) (hj : x[j]? = some v) : W.cell? ⟨xb, j, none⟩ = some v := by
  subst hX
  exact cell_at h.xo hj
end
end Go.Proofs.YtibjpamnkhnagaaDoor
