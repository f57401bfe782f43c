/- Several sets at once; how many elements a set has; Of of a valid capacity. -/
import Derived.Test.YtibjpamnkhnagaaDoorSetK
set_option linter.unusedVariables false
set_option linter.unusedSimpArgs false
namespace Go.Proofs.YtibjpamnkhnagaaDoor
open Go.RowKit Go.Proofs.YtibjpamnkhnagaaDoorW.PrintWords Mem Bit

theorem PS.un {w : World} {ok : Nat → Prop} {p : Nat} {bs : List Bool} (h : PS w ok (some ⟨p, 0, none⟩) (some bs)) : BS w ok p bs := by
  rcases h.ex with ⟨h, _⟩ | ⟨p', _, h, _⟩ | ⟨p', bs', h1, h2, hB⟩
  · cases h
  · cases h
  · have e1 : p = p' := by simpa using h1
    have e2 : bs = bs' := Option.some.inj h2
    rw [e1, e2]
    exact hB
theorem PS.some_ {w : World} {ok : Nat → Prop} {v : Option Addr} {bs : List Bool} (h : PS w ok v (some bs)) : ∃ p, v = some ⟨p, 0, none⟩ ∧ BS w ok p bs := by
  rcases h.ex with ⟨_, h⟩ | ⟨p', _, h, _⟩ | ⟨p', bs', h1, h2, hB⟩
  · cases h
  · cases h
  · exact ⟨p', h1, by rw [Option.some.inj h2]; exact hB⟩

/-- A set of one's own: its blocks lie from a on, below b. -/
structure St where
  a : Nat
  b : Nat
  p : Nat
  bs : List Bool
/-- Sets of one's own, in the order in which they were made. -/
structure Ss (w0 W : World) (L : List St) : Prop where
  each : ∀ (i : Nat) (x : St), L[i]? = some x → w0.heap.size ≤ x.a ∧ x.b ≤ W.heap.size ∧ BS W (rng x.a x.b) x.p x.bs
  apart : ∀ (i j : Nat) (x y : St), i < j → L[i]? = some x → L[j]? = some y → x.b ≤ y.a
  below : Below w0.heap.size w0 W
  db : DB w0
section
variable {w0 W W' : World} {L : List St}
theorem Ss.step (h : Ss w0 W L) (hb : Below W.heap.size W W') : Ss w0 W' L :=
  ⟨fun i x hx => ⟨(h.each i x hx).1, Nat.le_trans (h.each i x hx).2.1 hb.size, (h.each i x hx).2.2.below hb⟩, h.apart, h.below.trans (hb.mono h.below.size), h.db⟩
theorem Ss.drewN (h : Ss w0 W L) (q : Nat) : Ss w0 (W.drewN q) L := h.step (pw_below_drewN (Below.refl _ _) q)
theorem Ss.alloc (h : Ss w0 W L) (x : Obj) : Ss w0 (W.alloc x) L := h.step (below_alloc (Below.refl _ _) x)
theorem Ss.nil (hD : DB W) : Ss W W [] := ⟨fun i x hx => by simp at hx, fun i j x y _ hx => by simp at hx, Below.refl _ _, hD⟩
theorem Ss.start (hb : Below w0.heap.size w0 W) (hD : DB w0) : Ss w0 W [] := ⟨fun i x hx => by simp at hx, fun i j x y _ hx => by simp at hx, hb, hD⟩
theorem Ss.push (h : Ss w0 W L) (hb : Below W.heap.size W W') {p : Nat} {bs : List Bool} (hB : BS W' (fun k => W.heap.size ≤ k) p bs) : Ss w0 W' (L ++ [⟨W.heap.size, W'.heap.size, p, bs⟩]) := by
  have h' := h.step hb
  refine ⟨fun i x hx => ?_, fun i j x y hij hx hy => ?_, h'.below, h.db⟩
  · by_cases hi : i < L.length
    · rw [List.getElem?_append_left hi] at hx
      exact h'.each i x hx
    · rw [List.getElem?_append_right (by omega)] at hx
      obtain ⟨_, rfl⟩ : i - L.length = 0 ∧ x = ⟨W.heap.size, W'.heap.size, p, bs⟩ := by
        rcases Nat.eq_zero_or_pos (i - L.length) with e | e
        · rw [e] at hx; simp at hx; exact ⟨e, hx.symm⟩
        · rw [List.getElem?_eq_none (by simp; omega)] at hx; cases hx
      exact ⟨h.below.size, Nat.le_refl _, hB.bound.mono (fun k hk => ⟨hk.1, hk.2⟩)⟩
  · have hil : i < L.length := by
      have : j < (L ++ [(⟨W.heap.size, W'.heap.size, p, bs⟩ : St)]).length := (List.getElem?_eq_some_iff.1 hy).1
      simp at this
      omega
    rw [List.getElem?_append_left hil] at hx
    by_cases hj : j < L.length
    · rw [List.getElem?_append_left hj] at hy
      exact h.apart i j x y hij hx hy
    · rw [List.getElem?_append_right (by omega)] at hy
      rcases Nat.eq_zero_or_pos (j - L.length) with e | e
      · rw [e] at hy
        simp at hy
        rw [← hy]
        exact (h.each i x hx).2.1
      · rw [List.getElem?_eq_none (by simp; omega)] at hy; cases hy
theorem Ss.bs (h : Ss w0 W L) (i : Nat) {x : St} (hx : L[i]? = some x) : BS W (rng x.a x.b) x.p x.bs := (h.each i x hx).2.2
theorem Ss.ps (h : Ss w0 W L) (i : Nat) {x : St} (hx : L[i]? = some x) : PS W (rng x.a x.b) (some ⟨x.p, 0, none⟩) (some x.bs) := PS.set_ (h.bs i hx)
theorem Ss.psW (h : Ss w0 W L) (i : Nat) {x : St} (hx : L[i]? = some x) : PS W (fun k => k < W.heap.size) (some ⟨x.p, 0, none⟩) (some x.bs) := (h.ps i hx).mono (fun k hk => Nat.lt_of_lt_of_le hk.2 (h.each i x hx).2.1)
theorem Ss.len (h : Ss w0 W L) (i : Nat) {x : St} (hx : L[i]? = some x) : x.bs.length ≤ 65536 := by
  obtain ⟨g, cc, _, _, _, hl⟩ := (h.bs i hx).ex
  exact hl
theorem Ss.dis (h : Ss w0 W L) (i j : Nat) {x y : St} (hx : L[i]? = some x) (hy : L[j]? = some y) (hij : i ≠ j) : ∀ k, rng y.a y.b k → ¬ rng x.a x.b k := by
  intro k hk hk'
  have h1 := hk.1; have h2 := hk.2; have h3 := hk'.1; have h4 := hk'.2
  rcases Nat.lt_or_ge i j with hlt | hge
  · have := h.apart i j x y hlt hx hy; omega
  · have := h.apart j i y x (by omega) hy hx; omega
theorem Ss.dbW (h : Ss w0 W L) : DB W := h.db.below h.below
theorem Ss.write (h : Ss w0 W L) (i : Nat) {x : St} (hx : L[i]? = some x) {bs' : List Bool} (hk : Kp (rng x.a x.b) W W') (hB : BS W' (rng x.a x.b) x.p bs') : Ss w0 W' (L.set i { x with bs := bs' }) := by
  refine ⟨fun j y hy => ?_, fun j j' y y' hjj hy hy' => ?_, ?_, h.db⟩
  · by_cases hj : i = j
    · subst hj
      rw [List.getElem?_set_self (List.getElem?_eq_some_iff.1 hx).1] at hy
      obtain rfl : { x with bs := bs' } = y := Option.some.inj hy
      exact ⟨(h.each i x hx).1, Nat.le_trans (h.each i x hx).2.1 hk.size, hB⟩
    · rw [List.getElem?_set_ne hj] at hy
      exact ⟨(h.each j y hy).1, Nat.le_trans (h.each j y hy).2.1 hk.size, (h.each j y hy).2.2.kp hk (h.dis i j hx hy hj)⟩
  · have key : ∀ (m : Nat) (z : St), (L.set i { x with bs := bs' })[m]? = some z → ∃ z', L[m]? = some z' ∧ z'.a = z.a ∧ z'.b = z.b := by
      intro m z hz
      by_cases hm : i = m
      · subst hm
        rw [List.getElem?_set_self (List.getElem?_eq_some_iff.1 hx).1] at hz
        obtain rfl : { x with bs := bs' } = z := Option.some.inj hz
        exact ⟨x, hx, rfl, rfl⟩
      · rw [List.getElem?_set_ne hm] at hz
        exact ⟨z, hz, rfl, rfl⟩
    obtain ⟨z, hz, e1, e2⟩ := key j y hy
    obtain ⟨z', hz', e1', e2'⟩ := key j' y' hy'
    have := h.apart j j' z z' hjj hz hz'
    omega
  · exact h.below.trans (hk.belowB (fun k hk' => Nat.le_trans (h.each i x hx).1 hk'.1) h.below.size)
end

/-! How many. -/
def cnt (bs : List Bool) : Nat := bs.count true
theorem elemsTo_cons (b : Bool) (bs : List Bool) : ∀ m, (elemsTo (b :: bs) (m + 1)).length = (if b then 1 else 0) + (elemsTo bs m).length
  | 0 => by
    rw [elemsTo_succ]
    cases b <;> simp [elemsTo]
  | m + 1 => by
    rw [elemsTo_succ, List.length_append, elemsTo_cons b bs m, elemsTo_succ, List.length_append]
    have : (b :: bs).getD (m + 1) false = bs.getD m false := rfl
    rw [this]
    cases bs.getD m false <;> simp <;> omega
theorem elems_cnt : ∀ bs : List Bool, (elems bs).length = cnt bs
  | [] => rfl
  | b :: bs => by
    show (elemsTo (b :: bs) (bs.length + 1)).length = _
    rw [elemsTo_cons]
    have := elems_cnt bs
    unfold elems at this
    rw [this]
    unfold cnt
    rw [List.count_cons]
    cases b <;> simp <;> omega
theorem elemsO_cnt (bs : List Bool) : (elemsO (some bs)).length = cnt bs := elems_cnt bs
theorem cnt_zip : ∀ bs cs : List Bool, bs.length = cs.length → cnt (zipB .or bs cs) + cnt (zipB .and bs cs) = cnt bs + cnt cs ∧ cnt (zipB .andNot bs cs) + cnt (zipB .and bs cs) = cnt bs
  | [], [], _ => ⟨rfl, rfl⟩
  | b :: bs, c :: cs, h => by
    obtain ⟨h1, h2⟩ := cnt_zip bs cs (by simpa using h)
    unfold cnt zipB at *
    simp only [List.zipWith_cons_cons, List.count_cons]
    cases b <;> cases c <;> simp [bop] <;> omega
theorem cnt_le (bs : List Bool) : cnt bs ≤ bs.length := List.count_le_length
theorem zip_apart : ∀ bs cs : List Bool, bs.length = cs.length → zipB .and (zipB .andNot bs cs) (zipB .and bs cs) = List.replicate bs.length false ∧ zipB .or (zipB .andNot bs cs) (zipB .and bs cs) = bs
  | [], [], _ => ⟨rfl, rfl⟩
  | b :: bs, c :: cs, h => by
    obtain ⟨h1, h2⟩ := zip_apart bs cs (by simpa using h)
    unfold zipB at *
    simp only [List.zipWith_cons_cons, List.length_cons, List.replicate_succ, h1, h2]
    cases b <;> cases c <;> simp [bop]
theorem cnt_zero (n : Nat) : cnt (List.replicate n false) = 0 := by simp [cnt, List.count_replicate]
theorem cnt_pos_iff : ∀ bs : List Bool, decide (List.replicate bs.length false ≠ bs) = decide (0 < cnt bs)
  | [] => rfl
  | b :: bs => by
    have h := cnt_pos_iff bs
    rw [Bool.eq_iff_iff] at h ⊢
    simp only [decide_eq_true_eq] at h ⊢
    unfold cnt at *
    rw [List.count_cons, List.length_cons, List.replicate_succ]
    cases b with
    | true => simp
    | false => simp at h ⊢; exact h

/-- Of of a valid capacity. -/
def setL (n : Nat) (l : List Int) : List Bool := l.foldl (fun bs i => if 0 ≤ i then bs.set i.toNat true else bs) (List.replicate n false)
theorem addAll_some (l : List Int) : ∀ bs : List Bool, addAll (some bs) l = some (l.foldl (fun bs i => if 0 ≤ i then bs.set i.toNat true else bs) bs) := by
  induction l with
  | nil => intro bs; rfl
  | cons i l ih =>
    intro bs
    have : addAll (some bs) (i :: l) = addAll (some (if 0 ≤ i then bs.set i.toNat true else bs)) l := rfl
    rw [this, ih]
    rfl
theorem ofO_some (n : Nat) (l : List Int) (h : n ≤ 65536) : ofO n l = some (setL n l) := by
  unfold ofO newO
  rw [if_neg (by omega), addAll_some]
  rfl
theorem setL_length (n : Nat) (l : List Int) : (setL n l).length = n := by
  unfold setL
  have : ∀ (l : List Int) (bs : List Bool), (l.foldl (fun bs i => if 0 ≤ i then bs.set i.toNat true else bs) bs).length = bs.length := by
    intro l
    induction l with
    | nil => intro bs; rfl
    | cons i l ih =>
      intro bs
      rw [List.foldl_cons, ih]
      split <;> simp
  rw [this, List.length_replicate]
end Go.Proofs.YtibjpamnkhnagaaDoor
