import Derived.Test.YtmlikgmcekofbaaMCom8
section
/- The components numbered by their least node, in plain lists. -/
set_option linter.unusedVariables false
set_option linter.unusedSimpArgs false
set_option linter.unusedSectionVars false
namespace Go.Proofs.Ytmlikgmcekofbaa
open Go.RowKit Go.Proofs.YtmlikgmcekofbaaW.PrintWords Go.Proofs.Ytmlikgmcekofbaa.PDigraphTells Mem

theorem rdi_set {l : List Int} {s x : Int} (h0 : 0 ≤ s) (h : s < l.length) (hx : 0 ≤ x) (v : Int) : rd (l.set s.toNat v) x = if x = s then v else rd l x := by
  unfold rd
  by_cases e : x = s
  · subst e
    have h1 : x.toNat < l.length := by omega
    simp [h1]
  · rw [if_neg e]
    have h1 : s.toNat ≠ x.toNat := by omega
    simp [List.getD_eq_getElem?_getD, List.getElem?_set_ne h1]
theorem rd1_at (o : List (List Int)) (x : Int) : rd_L1 o x = o.getD x.toNat [] := rfl
theorem rdl_set {o : List (List Int)} {s x : Int} (h0 : 0 ≤ s) (h : s < o.length) (hx : 0 ≤ x) (v : List Int) : rd_L1 (o.set s.toNat v) x = if x = s then v else rd_L1 o x := by
  rw [rd1_at, rd1_at]
  by_cases e : x = s
  · subst e
    have h1 : x.toNat < o.length := by omega
    simp [h1]
  · rw [if_neg e]
    have h1 : s.toNat ≠ x.toNat := by omega
    simp [List.getD_eq_getElem?_getD, List.getElem?_set_ne h1]
theorem rdl_app {o : List (List Int)} {x : Int} (hx : 0 ≤ x) (v : List Int) : rd_L1 (o ++ [v]) x = if x = o.length then v else rd_L1 o x := by
  rw [rd1_at, rd1_at]
  by_cases e : x = o.length
  · subst e; simp
  · rw [if_neg e]
    by_cases h : x < o.length
    · have h1 : x.toNat < o.length := by omega
      simp [List.getD_eq_getElem?_getD, List.getElem?_append_left h1]
    · have h1 : ¬ x.toNat < (o ++ [v]).length := by simp; omega
      have h2 : ¬ x.toNat < o.length := by omega
      simp only [List.getD_eq_getElem?_getD, List.getElem?_eq_none (Nat.le_of_not_lt h1), List.getElem?_eq_none (Nat.le_of_not_lt h2)]
theorem rdi_rep {n : Nat} {x : Int} (hx : 0 ≤ x) (h : x < n) (v : Int) : rd (List.replicate n v) x = v := by
  unfold rd
  have h1 : x.toNat < n := by omega
  simp [h1]

structure NI (n : Nat) (comp : List Int) (cnt : Nat) (i : Nat) (num of : List Int) (out : List (List Int)) : Prop where
  nl : num.length = cnt
  ol : of.length = n
  a : ∀ j : Int, 0 ≤ j → j < i → rd num (rd comp j) = rd of j ∧ 0 ≤ rd of j ∧ rd of j < out.length
  b : ∀ j j' : Int, 0 ≤ j → j < i → 0 ≤ j' → j' < i → rd of j = rd of j' → rd comp j = rd comp j'
  c : ∀ k : Int, 0 ≤ k → k < cnt → (rd num k < 0 ∧ ∀ j : Int, 0 ≤ j → j < i → rd comp j ≠ k) ∨ (0 ≤ rd num k ∧ rd num k < out.length ∧ ∃ j : Int, 0 ≤ j ∧ j < i ∧ rd comp j = k ∧ rd of j = rd num k)
  mem : ∀ k : Int, 0 ≤ k → k < out.length → ∀ z, z ∈ rd_L1 out k ↔ 0 ≤ z ∧ z < i ∧ rd of z = k
  srt : ∀ k : Int, 0 ≤ k → k < out.length → (rd_L1 out k).Pairwise (· < ·) ∧ rd_L1 out k ≠ []
  ord : ∀ k k' : Int, 0 ≤ k → k < k' → k' < out.length → ∃ z ∈ rd_L1 out k, ∀ z' ∈ rd_L1 out k', z < z'
  ol2 : out.length ≤ i
section
variable {n : Nat} {comp : List Int} {cnt i : Nat} {num of : List Int} {out : List (List Int)}
theorem NI.start (n : Nat) (comp : List Int) (cnt : Nat) : NI n comp cnt 0 (List.replicate cnt (-1)) (List.replicate n 0) [] := by
  refine ⟨by simp, by simp, fun j h0 h1 => by omega, fun j j' h0 h1 => by omega, fun k h0 h1 => .inl ⟨by rw [rdi_rep h0 h1]; omega, fun j h2 h3 => by omega⟩, fun k h0 h1 => by simp at h1; omega, fun k h0 h1 => by simp at h1; omega, fun k k' h0 h1 h2 => by simp at h2; omega, by simp⟩
theorem pair_snoc {l : List Int} {x : Int} (h : l.Pairwise (· < ·)) (hx : ∀ z ∈ l, z < x) : (l ++ [x]).Pairwise (· < ·) := by
  rw [List.pairwise_append]
  exact ⟨h, List.pairwise_singleton _ _, fun a ha b hb => by simp at hb; rw [hb]; exact hx a ha⟩
theorem NI.old (h : NI n comp cnt i num of out) (hi : i < n) (hc : ∀ j : Int, 0 ≤ j → j < n → 0 ≤ rd comp j ∧ rd comp j < cnt) {k : Int} (hk : rd num (rd comp (i : Int)) = k) (h0 : 0 ≤ k) :
    k < out.length ∧ NI n comp cnt (i + 1) num (of.set i k) (out.set k.toNat (rd_L1 out k ++ [(i : Int)])) := by
  have hci := hc i (by omega) (by omega)
  rcases h.c (rd comp (i : Int)) hci.1 hci.2 with ⟨h1, _⟩ | ⟨h1, h2, j0, j1, j2, j3, j4⟩
  · omega
  rw [hk] at h2 j4
  refine ⟨h2, ?_⟩
  have eI : ((i : Int)).toNat = i := Int.toNat_natCast i
  have hof : ∀ x : Int, 0 ≤ x → rd (of.set i k) x = if x = (i : Int) then k else rd of x := fun x hx => by
    have := rdi_set (l := of) (s := (i : Int)) (by omega) (by rw [h.ol]; omega) hx k
    rwa [eI] at this
  have hout : ∀ x : Int, 0 ≤ x → rd_L1 (out.set k.toNat (rd_L1 out k ++ [(i : Int)])) x = if x = k then rd_L1 out k ++ [(i : Int)] else rd_L1 out x := fun x hx => rdl_set h0 h2 hx _
  have hol : (out.set k.toNat (rd_L1 out k ++ [(i : Int)])).length = out.length := List.length_set
  have hlt : ∀ x : Int, 0 ≤ x → x < out.length → ∀ z ∈ rd_L1 out x, z < (i : Int) := fun x hx hx2 z hz => ((h.mem x hx hx2 z).1 hz).2.1
  refine ⟨h.nl, by rw [List.length_set]; exact h.ol, fun j g0 g1 => ?_, fun j j' g0 g1 g2 g3 e => ?_, fun c g0 g1 => ?_, fun x g0 g1 z => ?_, fun x g0 g1 => ?_, fun x x' g0 g1 g2 => ?_, by rw [hol]; have := h.ol2; omega⟩
  · rw [hof j g0, hol]
    by_cases e : j = (i : Int)
    · rw [if_pos e, e, hk]; exact ⟨rfl, h0, h2⟩
    · rw [if_neg e]; exact h.a j g0 (by omega)
  · rw [hof j g0, hof j' g2] at e
    by_cases e1 : j = (i : Int) <;> by_cases e2 : j' = (i : Int)
    · rw [e1, e2]
    · rw [if_pos e1, if_neg e2] at e
      rw [e1, ← j3]
      exact h.b j0 j' j1 j2 g2 (by omega) (by rw [j4, e])
    · rw [if_neg e1, if_pos e2] at e
      rw [e2, ← j3]
      exact h.b j j0 g0 (by omega) j1 j2 (by rw [j4, e])
    · rw [if_neg e1, if_neg e2] at e
      exact h.b j j' g0 (by omega) g2 (by omega) e
  · rcases h.c c g0 g1 with ⟨q1, q2⟩ | ⟨q1, q2, q3, q4, q5, q6, q7⟩
    · refine .inl ⟨q1, fun j r0 r1 => ?_⟩
      by_cases e : j = (i : Int)
      · rw [e]; intro e3; rw [e3] at hk; omega
      · exact q2 j r0 (by omega)
    · rw [hol]
      exact .inr ⟨q1, q2, q3, q4, by omega, q6, by rw [hof q3 q4, if_neg (by omega)]; exact q7⟩
  · rw [hol] at g1
    rw [hout x g0]
    by_cases hzz : z = (i : Int)
    · rw [hzz, hof _ (by omega), if_pos rfl]
      by_cases e : x = k
      · rw [if_pos e, e]; simp; omega
      · rw [if_neg e, h.mem x g0 g1]
        constructor
        · intro hh; omega
        · intro hh; omega
    · have h9 : z ∈ (if x = k then rd_L1 out k ++ [(i : Int)] else rd_L1 out x) ↔ z ∈ rd_L1 out x := by
        by_cases e : x = k
        · rw [if_pos e, e]; simp [hzz]
        · rw [if_neg e]
      rw [h9, h.mem x g0 g1]
      constructor
      · rintro ⟨r1, r2, r3⟩; exact ⟨r1, by omega, by rw [hof z r1, if_neg hzz]; exact r3⟩
      · rintro ⟨r1, r2, r3⟩; rw [hof z r1, if_neg hzz] at r3; exact ⟨r1, by omega, r3⟩
  · rw [hol] at g1
    rw [hout x g0]
    by_cases e : x = k
    · rw [if_pos e]
      exact ⟨pair_snoc (h.srt k h0 h2).1 (hlt k h0 h2), by simp⟩
    · rw [if_neg e]; exact h.srt x g0 g1
  · rw [hol] at g2
    obtain ⟨z, hz, hzz⟩ := h.ord x x' g0 g1 g2
    have hzi := hlt x g0 (by omega) z hz
    refine ⟨z, ?_, fun z' hz' => ?_⟩
    · rw [hout x g0]
      by_cases e : x = k
      · rw [if_pos e, ← e]; simp [hz]
      · rw [if_neg e]; exact hz
    · rw [hout x' (by omega)] at hz'
      by_cases e : x' = k
      · rw [if_pos e, ← e] at hz'
        rcases List.mem_append.1 hz' with h3 | h3
        · exact hzz z' h3
        · simp at h3; rw [h3]; exact hzi
      · rw [if_neg e] at hz'; exact hzz z' hz'
theorem NI.new (h : NI n comp cnt i num of out) (hi : i < n) (hc : ∀ j : Int, 0 ≤ j → j < n → 0 ≤ rd comp j ∧ rd comp j < cnt) (hk : rd num (rd comp (i : Int)) < 0) :
    NI n comp cnt (i + 1) (num.set (rd comp (i : Int)).toNat (out.length : Int)) (of.set i (out.length : Int)) (out ++ [[(i : Int)]]) := by
  have hci := hc i (by omega) (by omega)
  obtain ⟨c0, hc0⟩ : ∃ c0, rd comp (i : Int) = c0 := ⟨_, rfl⟩
  rw [hc0] at hk hci ⊢
  have hno : ∀ j : Int, 0 ≤ j → j < i → rd comp j ≠ c0 := by
    rcases h.c c0 hci.1 hci.2 with ⟨_, h2⟩ | ⟨h1, _⟩
    · exact h2
    · omega
  have eI : ((i : Int)).toNat = i := Int.toNat_natCast i
  have hof : ∀ x : Int, 0 ≤ x → rd (of.set i (out.length : Int)) x = if x = (i : Int) then (out.length : Int) else rd of x := fun x hx => by
    have := rdi_set (l := of) (s := (i : Int)) (by omega) (by rw [h.ol]; omega) hx (out.length : Int)
    rwa [eI] at this
  have hnum : ∀ x : Int, 0 ≤ x → rd (num.set c0.toNat (out.length : Int)) x = if x = c0 then (out.length : Int) else rd num x := fun x hx => rdi_set hci.1 (by rw [h.nl]; exact hci.2) hx _
  have hout : ∀ x : Int, 0 ≤ x → rd_L1 (out ++ [[(i : Int)]]) x = if x = out.length then [(i : Int)] else rd_L1 out x := fun x hx => rdl_app hx _
  have hol : (out ++ [[(i : Int)]]).length = out.length + 1 := by simp
  refine ⟨by rw [List.length_set]; exact h.nl, by rw [List.length_set]; exact h.ol, fun j g0 g1 => ?_, fun j j' g0 g1 g2 g3 e => ?_, fun c g0 g1 => ?_, fun x g0 g1 z => ?_, fun x g0 g1 => ?_, fun x x' g0 g1 g2 => ?_, by rw [hol]; have := h.ol2; omega⟩
  · have hcj := hc j g0 (by omega)
    rw [hof j g0, hnum _ hcj.1, hol]
    by_cases e : j = (i : Int)
    · rw [if_pos e, e, hc0, if_pos rfl]; exact ⟨rfl, by omega, by omega⟩
    · rw [if_neg e, if_neg (hno j g0 (by omega))]
      obtain ⟨q1, q2, q3⟩ := h.a j g0 (by omega)
      exact ⟨q1, q2, by omega⟩
  · rw [hof j g0, hof j' g2] at e
    by_cases e1 : j = (i : Int) <;> by_cases e2 : j' = (i : Int)
    · rw [e1, e2]
    · rw [if_pos e1, if_neg e2] at e
      have := (h.a j' g2 (by omega)).2.2; omega
    · rw [if_neg e1, if_pos e2] at e
      have := (h.a j g0 (by omega)).2.2; omega
    · rw [if_neg e1, if_neg e2] at e
      exact h.b j j' g0 (by omega) g2 (by omega) e
  · rw [hnum c g0, hol]
    by_cases e : c = c0
    · rw [if_pos e]
      exact .inr ⟨by omega, by omega, (i : Int), by omega, by omega, by rw [hc0, e], by rw [hof _ (by omega), if_pos rfl]⟩
    · rw [if_neg e]
      rcases h.c c g0 g1 with ⟨q1, q2⟩ | ⟨q1, q2, q3, q4, q5, q6, q7⟩
      · refine .inl ⟨q1, fun j r0 r1 => ?_⟩
        by_cases e2 : j = (i : Int)
        · rw [e2, hc0]; exact fun e3 => e e3.symm
        · exact q2 j r0 (by omega)
      · exact .inr ⟨q1, by omega, q3, q4, by omega, q6, by rw [hof q3 q4, if_neg (by omega)]; exact q7⟩
  · rw [hol] at g1
    rw [hout x g0]
    by_cases e : x = out.length
    · rw [if_pos e]
      constructor
      · intro hz; simp at hz; rw [hz, hof _ (by omega), if_pos rfl]; omega
      · rintro ⟨r1, r2, r3⟩
        rw [hof z r1] at r3
        by_cases e2 : z = (i : Int)
        · simp [e2]
        · rw [if_neg e2] at r3
          have := (h.a z r1 (by omega)).2.2; omega
    · rw [if_neg e, h.mem x g0 (by omega)]
      constructor
      · rintro ⟨r1, r2, r3⟩; exact ⟨r1, by omega, by rw [hof z r1, if_neg (by omega)]; exact r3⟩
      · rintro ⟨r1, r2, r3⟩
        rw [hof z r1] at r3
        by_cases e2 : z = (i : Int)
        · rw [if_pos e2] at r3; omega
        · rw [if_neg e2] at r3; exact ⟨r1, by omega, r3⟩
  · rw [hol] at g1
    rw [hout x g0]
    by_cases e : x = out.length
    · rw [if_pos e]; exact ⟨List.pairwise_singleton _ _, by simp⟩
    · rw [if_neg e]; exact h.srt x g0 (by omega)
  · rw [hol] at g2
    rw [hout x g0, hout x' (by omega), if_neg (by omega)]
    by_cases e : x' = out.length
    · rw [if_pos e]
      obtain ⟨z, hz⟩ := List.exists_mem_of_ne_nil _ (h.srt x g0 (by omega)).2
      have := ((h.mem x g0 (by omega) z).1 hz).2.1
      exact ⟨z, hz, fun z' hz' => by simp at hz'; omega⟩
    · rw [if_neg e]; exact h.ord x x' g0 g1 (by omega)
end

/-- The components of a graph, by their least node, and each node's. -/
structure CI (G : List (List Int)) (cs : List (List Int)) (of : List Int) : Prop where
  ol : of.length = G.length
  rng : ∀ x, isNode G x → 0 ≤ rd of x ∧ rd of x < cs.length
  mem : ∀ k : Int, 0 ≤ k → k < cs.length → ∀ z, z ∈ rd_L1 cs k ↔ isNode G z ∧ rd of z = k
  srt : ∀ k : Int, 0 ≤ k → k < cs.length → (rd_L1 cs k).Pairwise (· < ·) ∧ rd_L1 cs k ≠ []
  ord : ∀ k k' : Int, 0 ≤ k → k < k' → k' < cs.length → ∃ z ∈ rd_L1 cs k, ∀ z' ∈ rd_L1 cs k', z < z'
  eqv : ∀ x y, isNode G x → isNode G y → (rd of x = rd of y ↔ Grf.Reach (adj G) x y ∧ Grf.Reach (adj G) y x)
  len : cs.length ≤ G.length
theorem NI.done {G : List (List Int)} {comp : List Int} {cnt : Nat} {num of : List Int} {out : List (List Int)} (h : NI G.length comp cnt G.length num of out) (he : ∀ x y, isNode G x → isNode G y → (rd comp x = rd comp y ↔ Grf.Reach (adj G) x y ∧ Grf.Reach (adj G) y x)) : CI G out of :=
  ⟨h.ol, fun x hx => (h.a x hx.1 hx.2).2, fun k h0 h1 z => by rw [h.mem k h0 h1 z]; exact ⟨fun hh => ⟨⟨hh.1, hh.2.1⟩, hh.2.2⟩, fun hh => ⟨hh.1.1, hh.1.2, hh.2⟩⟩, h.srt, h.ord,
    fun x y hx hy => by
      rw [← he x y hx hy]
      exact ⟨fun e => h.b x y hx.1 hx.2 hy.1 hy.2 e, fun e => by rw [← (h.a x hx.1 hx.2).1, ← (h.a y hy.1 hy.2).1, e]⟩, h.ol2⟩
end Go.Proofs.Ytmlikgmcekofbaa
end

section
/- A sorted queue: slices.BinarySearch and slices.Insert on it. -/
set_option linter.unusedVariables false
set_option linter.unusedSimpArgs false
set_option linter.unusedSectionVars false
namespace Go.Proofs.Ytmlikgmcekofbaa
open Go.RowKit Go.Proofs.YtmlikgmcekofbaaW.PrintWords Go.Proofs.Ytmlikgmcekofbaa.PDigraphTells Mem

/-- v is a queue that holds q, in a block that satisfies ok. -/
def QS (w : World) (ok : Nat → Prop) (v : Value) (q : List Int) : Prop :=
  ∃ A cap, v = .slice A q.length cap ∧ q.length ≤ cap ∧ cap ≤ maxLen ∧ (0 < cap → ∃ g off cur, A = some ⟨g, off, none⟩ ∧ ok g ∧ w.heap[g]? = some (.cells cur 3 (0, 0)) ∧ cur.size = off + cap ∧ ∀ j (h : j < q.length), cur[off + j]? = some (.int .i64 q[j]))
section
variable {w W : World} {ok ok' : Nat → Prop} {v : Value} {q : List Int}
theorem QS.step (h : QS w ok v q) (hm : ∀ k, ok k → k < w.heap.size → W.heap[k]? = w.heap[k]?) : QS W ok v q := by
  obtain ⟨A, cap, rfl, h1, h2, h⟩ := h
  refine ⟨A, cap, rfl, h1, h2, fun hp => ?_⟩
  obtain ⟨g, off, cur, hA, hg, hh, r⟩ := h hp
  exact ⟨g, off, cur, hA, hg, (hm g hg (blk_lt' hh)).trans hh, r⟩
theorem QS.mono (h : QS w ok v q) (hm : ∀ k, ok k → k < w.heap.size → ok' k) : QS w ok' v q := by
  obtain ⟨A, cap, rfl, h1, h2, h⟩ := h
  refine ⟨A, cap, rfl, h1, h2, fun hp => ?_⟩
  obtain ⟨g, off, cur, hA, hg, hh, r⟩ := h hp
  exact ⟨g, off, cur, hA, hm g hg (blk_lt' hh), hh, r⟩
theorem QS.of_R (h : Kd.R (Kd.int .i64) 3 w 0 ok v q) : QS w ok v q := by
  obtain ⟨hl, ho⟩ := Kd.own_of_R h
  rcases ho with ⟨rfl, hq⟩ | ⟨g, cap, cur, rfl, hg, hh, hnc, hcm, hcs, ht⟩
  · have h0 : q.length = 0 := by omega
    refine ⟨none, 0, by rw [h0], by omega, by unfold maxLen; omega, fun hp => by omega⟩
  · refine ⟨some ⟨g, 0, none⟩, cap, rfl, hnc, hcm, fun hp => ⟨g, 0, cur, rfl, h.1 g rfl, hh, by simpa using hcs, fun j hj => ?_⟩⟩
    rw [Nat.mul_one] at ht
    have h2 : (cur.toList.take q.length)[j]? = some (.int .i64 q[j]) := by
      rw [ht]; simp [encs, hj]
    rw [List.getElem?_take, if_pos hj] at h2
    simpa using h2
theorem QS.head {x : Int} (h : QS w ok v (x :: q)) : ∃ g off cap, v = .slice (some ⟨g, off, none⟩) (q.length + 1) cap ∧ q.length + 1 ≤ cap ∧ w.cell? ⟨g, off, none⟩ = some (.int .i64 x) := by
  obtain ⟨A, cap, rfl, h1, h2, h⟩ := h
  simp only [List.length_cons] at h1
  obtain ⟨g, off, cur, rfl, hg, hh, hcs, ht⟩ := h (by omega)
  refine ⟨g, off, cap, rfl, h1, cell_at hh ?_⟩
  have := ht 0 (by simp)
  simpa using this
theorem QS.tail {x : Int} {g off cap : Nat} (h : QS w ok (.slice (some ⟨g, off, none⟩) (q.length + 1) cap) (x :: q)) (A : Option Addr) (hA : 0 < cap - 1 → A = some ⟨g, off + 1, none⟩) : QS w ok (.slice A q.length (cap - 1)) q := by
  obtain ⟨A1, cap1, e, h1, h2, h⟩ := h
  injection e with e1 e2 e3
  subst e1
  subst e3
  simp only [List.length_cons] at h1
  refine ⟨A, cap - 1, rfl, by omega, by omega, fun hp => ?_⟩
  obtain ⟨g1, off1, cur, e, hg, hh, hcs, ht⟩ := h (by omega)
  injection e with e
  injection e with e4 e5
  subst e4
  subst e5
  refine ⟨g, off + 1, cur, hA hp, hg, hh, by omega, fun j hj => ?_⟩
  have := ht (j + 1) (by simpa using hj)
  rw [show off + 1 + j = off + (j + 1) by omega, this]
  rfl
theorem blk_setCells {t : Nat} : ∀ (vs : List Value) (g o : Nat) (w : World) (cur : Array Value), w.heap[g]? = some (.cells cur t (0, 0)) → o + vs.length ≤ cur.size →
    ∃ cur', (w.setCells g o vs).heap[g]? = some (.cells cur' t (0, 0)) ∧ cur'.size = cur.size ∧ (∀ k, k < o ∨ o + vs.length ≤ k → cur'[k]? = cur[k]?) ∧ ∀ j, j < vs.length → cur'[o + j]? = vs[j]?
  | [], g, o, w, cur, h, _ => ⟨cur, h, rfl, fun _ _ => rfl, fun j hj => by simp at hj⟩
  | v :: vs, g, o, w, cur, h, hl => by
    simp only [List.length_cons] at hl
    have h1 := set_at (j := o) h v
    obtain ⟨cur', a1, a2, a3, a4⟩ := blk_setCells vs g (o + 1) (w.setCell ⟨g, o, none⟩ v) (cur.setIfInBounds o v) h1 (by simp; omega)
    refine ⟨cur', a1, by simpa using a2, fun k hk => ?_, fun j hj => ?_⟩
    · rw [a3 k (by simp only [List.length_cons] at hk; omega)]
      have : o ≠ k := by simp only [List.length_cons] at hk; omega
      simp [Array.getElem?_setIfInBounds, this]
    · cases j with
      | zero =>
        rw [Nat.add_zero, a3 o (by omega)]
        have : o < cur.size := by omega
        simp [Array.getElem?_setIfInBounds, this]
      | succ j =>
        rw [show o + (j + 1) = o + 1 + j by omega, a4 j (by simpa using hj)]
        rfl
theorem kp_setCells {S : Nat → Prop} (g : Nat) (hg : S g) : ∀ (vs : List Value) (o : Nat) (w W : World), Kp S w W → Kp S w (W.setCells g o vs)
  | [], _, _, _, h => h
  | v :: vs, o, w, W, h => kp_setCells g hg vs (o + 1) w _ (h.setCell (p := ⟨g, o, none⟩) (.inl hg) v)
/-- The queue with a in place i. -/
def insq (q : List Int) (i : Nat) (a : Int) : List Int := q.take i ++ a :: q.drop i
theorem insq_len {i : Nat} (h : i ≤ q.length) (a : Int) : (insq q i a).length = q.length + 1 := by unfold insq; simp; omega
theorem insq_get {i : Nat} (h : i ≤ q.length) (a : Int) (j : Nat) (hj : j < q.length + 1) : (insq q i a)[j]? = if j < i then q[j]? else if j = i then some a else q[j - 1]? := by
  unfold insq
  by_cases h1 : j < i
  · rw [if_pos h1, List.getElem?_append_left (by simp; omega), List.getElem?_take, if_pos h1]
  · rw [if_neg h1, List.getElem?_append_right (by simp; omega)]
    have e : (q.take i).length = i := by simp; omega
    rw [e]
    by_cases h2 : j = i
    · rw [if_pos h2, h2]; simp
    · rw [if_neg h2]
      obtain ⟨m, hm⟩ : ∃ m, j - i = m + 1 := ⟨j - i - 1, by omega⟩
      rw [hm, List.getElem?_cons_succ, List.getElem?_drop]
      congr 1; omega
theorem QS.mk' {g off cap : Nat} {cur : Array Value} {q' : List Int} (hg : ok g) (hh : w.heap[g]? = some (.cells cur 3 (0, 0))) (hc : cur.size = off + cap) (hl : q'.length ≤ cap) (hm : cap ≤ maxLen) (h : ∀ j, j < q'.length → cur[off + j]? = (q'[j]?).map (Value.int .i64)) : QS w ok (.slice (some ⟨g, off, none⟩) q'.length cap) q' :=
  ⟨_, cap, rfl, hl, hm, fun _ => ⟨g, off, cur, rfl, hg, hh, hc, fun j hj => by rw [h j hj, List.getElem?_eq_getElem hj]; rfl⟩⟩
theorem insert_any (h : QS w ok v q) (i : Nat) (hi : i ≤ q.length) (a : Int) (vb : Nat) (hvb : w.heap[vb]? = some (.cells #[.int .i64 a] 3 (0, 0))) (hnv : ¬ ok vb) (hq : q.length ≤ 1000000) :
    Calls Try.prog 29 #[v, .int .i64 (i : Int), .slice (some ⟨vb, 0, none⟩) 1 1] w fun e w' => ∃ v', e = .returned v' ∧ QS w' (fun k => ok k ∨ w.heap.size ≤ k) v' (insq q i a) ∧ Kp ok w w' := by
  obtain ⟨A, cap, rfl, h1, h2, h⟩ := h
  have hil := insq_len hi a
  have hvs : ∀ j v, ([Value.int .i64 a] : List Value)[j]? = some v → w.cell? ⟨vb, 0 + j, none⟩ = some v := fun j v hj => by
    rcases j with _ | j
    · simp at hj; rw [← hj]; exact cell_at hvb rfl
    · simp at hj
  have h1v : ∀ v ∈ [Value.int .i64 a], v.oneCell' = true := fun v hv => by simp at hv; rw [hv]; rfl
  have h1c : ∀ v ∈ q.map (Value.int .i64), v.oneCell' = true := fun v hv => by
    obtain ⟨x, _, rfl⟩ := List.mem_map.1 hv; rfl
  have hcl : (q.map (Value.int .i64)).length = q.length := List.length_map _
  have hm63 : cap ≤ 9223372036854775807 := by unfold maxLen at h2; omega
  by_cases hroom : q.length + 1 ≤ cap
  · obtain ⟨g, off, cur, rfl, hg, hh, hcs, ht⟩ := h (by omega)
    have hvg : vb ≠ g := fun e => hnv (e ▸ hg)
    have hcel : ∀ j v, (q.map (Value.int .i64))[j]? = some v → w.cell? ⟨g, off + j, none⟩ = some v := fun j v hj => by
      obtain ⟨hj1, hj2⟩ := List.getElem?_eq_some_iff.1 hj
      have hjl : j < q.length := by simpa using hj1
      rw [← hj2]
      exact cell_at hh (by rw [ht j hjl]; simp)
    have hsp : ∀ j, j < q.length + 1 → (w.cell? ⟨g, off + j, none⟩).isSome = true := fun j hj => by
      have : off + j < cur.size := by omega
      rw [cell_at hh (Array.getElem?_eq_getElem this)]; rfl
    by_cases hie : i < q.length
    · refine (Any2.slices_Insert_int_shift lays21 g off q.length cap i vb 0 1 1 (q.map (Value.int .i64)) [.int .i64 a] w hie (by omega) hroom hm63 hvg hcl rfl hcel hsp (fun j hj => free_at hh _) hvs h1c h1v 3 3 1 cur.size (by simp [World.shape?, hvb]) (by simp [World.shape?, hh]) (by omega) (free_at hvb _) (free_at hvb _)).mono ?_
      rintro e w' ⟨rfl, rfl⟩
      have hdl : ((q.map (Value.int .i64)).drop i).length = q.length - i := by simp
      obtain ⟨cur1, b1, b2, b3, b4⟩ := blk_setCells ((q.map (Value.int .i64)).drop i) g (off + (i + 1)) w.drew cur hh (by rw [hdl]; omega)
      obtain ⟨cur2, c1, c2, c3, c4⟩ := blk_setCells [.int .i64 a] g (off + i) _ cur1 b1 (by simp; omega)
      refine ⟨_, rfl, ?_, kp_setCells g hg _ _ _ _ (kp_setCells g hg _ _ _ _ (Kp.refl _ w).drew)⟩
      rw [← hil]
      refine QS.mk' (.inl hg) c1 (by omega) (by omega) h2 (fun j hj => ?_)
      rw [hil] at hj
      rw [insq_get hi a j hj]
      by_cases g1 : j < i
      · rw [if_pos g1, c3 _ (by left; omega), b3 _ (by left; omega), ht j (by omega), List.getElem?_eq_getElem (by omega)]; rfl
      · rw [if_neg g1]
        by_cases g2 : j = i
        · rw [if_pos g2, g2]
          have := c4 0 (by simp)
          rw [Nat.add_zero] at this
          rw [this]; rfl
        · rw [if_neg g2, c3 _ (by right; simp; omega)]
          have := b4 (j - (i + 1)) (by rw [hdl]; omega)
          rw [show off + j = off + (i + 1) + (j - (i + 1)) by omega, this, List.getElem?_drop, show i + (j - (i + 1)) = j - 1 by omega, List.getElem?_map]
    · obtain rfl : i = q.length := by omega
      refine (Any2.slices_Insert_int_end_room lays21 g off q.length cap vb 0 1 1 [.int .i64 a] w (by omega) hroom hm63 rfl (fun j hj => by have := hsp (q.length + j) (by omega); rwa [← Nat.add_assoc] at this) (fun j hj => free_at hh _) hvs h1v).mono ?_
      rintro e w' ⟨rfl, rfl⟩
      obtain ⟨cur2, c1, c2, c3, c4⟩ := blk_setCells [.int .i64 a] g (off + q.length) w cur hh (by simp; omega)
      refine ⟨_, rfl, ?_, kp_setCells g hg _ _ _ _ (Kp.refl _ w)⟩
      rw [← hil]
      refine QS.mk' (.inl hg) c1 (by omega) (by omega) h2 (fun j hj => ?_)
      rw [hil] at hj
      rw [insq_get hi a j hj]
      by_cases g1 : j < q.length
      · rw [if_pos g1, c3 _ (by left; omega), ht j g1, List.getElem?_eq_getElem g1]; rfl
      · have g2 : j = q.length := by omega
        rw [if_neg g1, if_pos g2, g2]
        have := c4 0 (by simp)
        rw [Nat.add_zero] at this
        rw [this]; rfl
  · have hlc : cap = q.length := by omega
    subst hlc
    have hbig : (q.length + 1) * 8 ≤ 140737488355328 := by omega
    have hgc := grownCap_ge w (q.length + 1) q.length 3
    have hgm : grownCap w (q.length + 1) q.length 3 ≤ maxLen := grownCap_le_maxLen w (q.length + 1) q.length 3 (by unfold maxLen; omega)
    by_cases hie : i < q.length
    · obtain ⟨g, off, cur, rfl, hg, hh, hcs, ht⟩ := h (by omega)
      have hcel : ∀ j v, (q.map (Value.int .i64))[j]? = some v → w.cell? ⟨g, off + j, none⟩ = some v := fun j v hj => by
        obtain ⟨hj1, hj2⟩ := List.getElem?_eq_some_iff.1 hj
        have hjl : j < q.length := by simpa using hj1
        rw [← hj2]
        exact cell_at hh (by rw [ht j hjl]; simp)
      refine (Any2.slices_Insert_int_grow lays21 g off q.length q.length i vb 0 1 1 (q.map (Value.int .i64)) [.int .i64 a] w hie (by omega) (Nat.le_refl _) (by omega) hbig hcl rfl hcel hvs h1c h1v).mono ?_
      rintro e w' ⟨rfl, rfl⟩
      have hdl : ((q.map (Value.int .i64)).drop i).length = q.length - i := by simp
      obtain ⟨C, hC⟩ : ∃ C : Nat, grownCap w (q.length + 1) q.length 3 = C := ⟨_, rfl⟩
      rw [show (lays21_ren.t 3) = 3 from rfl, hC]
      rw [hC] at hgc hgm
      obtain ⟨cur0, hcur0⟩ : ∃ cur0, ((q.map (Value.int .i64)).take i).toArray ++ Builtin.zeroCells (Value.int .i64 0).cells (q.length + 1 - i) ++ Builtin.zeroCells (Value.int .i64 0).cells (C - (q.length + 1)) = cur0 := ⟨_, rfl⟩
      have hs0 : cur0.size = C := by
        rw [← hcur0]
        simp only [Array.size_append, List.size_toArray, size_zeroCells, List.length_take, List.length_map]
        simp [Value.cells]; omega
      have hz0 : ∀ j, j < i → cur0[j]? = (q[j]?).map (Value.int .i64) := fun j hj => by
        rw [← hcur0, Array.getElem?_append_left (by simp [size_zeroCells]; omega), Array.getElem?_append_left (by simp; omega)]
        simp [List.getElem?_take, hj]
      rw [hcur0]
      have hb0 := heap_alloc_new w (.cells cur0 3)
      obtain ⟨cur1, b1, b2, b3, b4⟩ := blk_setCells [.int .i64 a] w.heap.size i (w.alloc (.cells cur0 3)).drew cur0 hb0 (by simp; omega)
      obtain ⟨cur2, c1, c2, c3, c4⟩ := blk_setCells ((q.map (Value.int .i64)).drop i) w.heap.size (i + 1) (((w.alloc (.cells cur0 3)).drew.setCells w.heap.size i [.int .i64 a]).drew) cur1 b1 (by rw [hdl]; omega)
      have hkp : Kp (fun k => w.heap.size ≤ k) w (((w.alloc (.cells cur0 3)).drew.setCells w.heap.size i [.int .i64 a]).drew.setCells w.heap.size (i + 1) ((q.map (Value.int .i64)).drop i)) :=
        kp_setCells w.heap.size (Nat.le_refl _) _ _ _ _ (kp_setCells w.heap.size (Nat.le_refl _) _ _ _ _ ((Kp.refl _ w).alloc _).drew).drew
      refine ⟨_, rfl, ?_, Kp.of_below (hkp.below (fun k hk => hk)) ok⟩
      rw [← hil]
      refine QS.mk' (.inr (Nat.le_refl _)) c1 (by omega) (by omega) hgm (fun j hj => ?_)
      rw [hil] at hj
      rw [insq_get hi a j hj, Nat.zero_add]
      by_cases g1 : j < i
      · rw [if_pos g1, c3 _ (by left; omega), b3 _ (by left; omega), hz0 j g1]
      · rw [if_neg g1]
        by_cases g2 : j = i
        · rw [if_pos g2, g2, c3 _ (by left; omega)]
          have := b4 0 (by simp)
          rw [Nat.add_zero] at this
          rw [this]; rfl
        · rw [if_neg g2]
          have := c4 (j - (i + 1)) (by rw [hdl]; omega)
          rw [show i + 1 + (j - (i + 1)) = j by omega] at this
          rw [this, List.getElem?_drop, show i + (j - (i + 1)) = j - 1 by omega, List.getElem?_map]
    · obtain rfl : i = q.length := by omega
      have hcel : ∀ a, A = some a → ∀ j v, (q.map (Value.int .i64))[j]? = some v → w.cell? (a.add j) = some v := fun a ha j v hj => by
        obtain ⟨hj1, hj2⟩ := List.getElem?_eq_some_iff.1 hj
        have hjl : j < q.length := by simpa using hj1
        obtain ⟨g, off, cur, hA, hg, hh, hcs, ht⟩ := h (by omega)
        rw [ha] at hA
        injection hA with hA
        subst hA
        rw [← hj2, Addr.add_lit]
        exact cell_at hh (by rw [ht j hjl]; simp)
      have hnil : A = none → q.length = 0 := fun hA => by
        by_cases h0 : q.length = 0
        · exact h0
        · obtain ⟨g, off, cur, hA', _⟩ := h (by omega)
          rw [hA] at hA'; cases hA'
      refine (Any2.slices_Insert_int_end_grow lays21 A q.length q.length vb 0 1 1 (q.map (Value.int .i64)) [.int .i64 a] w (by omega) (Nat.le_refl _) (by omega) hbig hcl rfl hnil hcel hvs h1v).mono ?_
      rintro e w' ⟨rfl, rfl⟩
      obtain ⟨C, hC⟩ : ∃ C : Nat, grownCap w (q.length + 1) q.length 3 = C := ⟨_, rfl⟩
      rw [show (lays21_ren.t 3) = 3 from rfl, hC]
      rw [hC] at hgc hgm
      refine ⟨_, rfl, ?_, ((Kp.refl ok w).drew).alloc _⟩
      rw [← hil]
      refine QS.mk' (.inr (Nat.le_refl _)) (heap_alloc_new w.drew _) ?_ (by omega) hgm (fun j hj => ?_)
      · simp only [Array.size_append, List.size_toArray, size_zeroCells, List.length_append, List.length_map, List.length_singleton]
        simp [Value.cells]; omega
      · rw [hil] at hj
        rw [Nat.zero_add, Array.getElem?_append_left (by simp; omega)]
        have e : insq q q.length a = q ++ [a] := by unfold insq; simp
        rw [e]
        simp [List.getElem?_append]
        by_cases g1 : j < q.length
        · simp [g1]
        · have g2 : j = q.length := by omega
          simp [g2]
theorem search_any (h : QS w ok v q) (hs : q.Pairwise (· < ·)) (x : Int) (hx : x ∉ q) (hq : q.length ≤ 1000000) :
    Calls Try.prog 28 #[v, .int .i64 x] w fun e w' => e = .returned (.tuple #[.int .i64 (q.countP (· < x) : Nat), .bool false]) ∧ ∃ n, w' = w.drewN n := by
  obtain ⟨A, cap, rfl, h1, h2, h⟩ := h
  by_cases h0 : q.length = 0
  · have hq0 : q = [] := List.length_eq_zero_iff.1 h0
    subst hq0
    refine (Any.slices_BinarySearch_int_empty lays25 A cap x w).mono ?_
    rintro e w' ⟨rfl, rfl⟩
    exact ⟨rfl, 0, rfl⟩
  · obtain ⟨g, off, cur, rfl, hg, hh, hcs, ht⟩ := h (by omega)
    refine (Any.slices_BinarySearch_int lays25 g off q.length cap q x w (Nat.le_refl _) (by omega) (fun j hj => ?_) ?_).mono ?_
    · have := ht j hj
      rw [cell_at hh this]
      simp [hj]
    · rw [List.take_of_length_le (Nat.le_refl _)]
      exact hs.imp (fun {a b} hlt => by omega)
    · rintro e w' ⟨rfl, hn⟩
      rw [List.take_of_length_le (Nat.le_refl _)]
      have : q.contains x = false := by simpa using hx
      rw [this]
      exact ⟨rfl, hn⟩
end
end Go.Proofs.Ytmlikgmcekofbaa
end

section
/- The order in which the components are listed, in plain lists: Kahn's algorithm with a sorted list of the ready ones. -/
set_option linter.unusedVariables false
set_option linter.unusedSimpArgs false
set_option linter.unusedSectionVars false
namespace Go.Proofs.Ytmlikgmcekofbaa
open Go.RowKit Go.Proofs.YtmlikgmcekofbaaW.PrintWords Go.Proofs.Ytmlikgmcekofbaa.PDigraphTells Mem

abbrev EL := List (Int × Int)
/-- What the first loops have counted of the edges E. -/
structure WI (m : Nat) (E : EL) (wt : List Int) (into : List (List Int)) : Prop where
  wl : wt.length = m
  il : into.length = m
  w : ∀ c : Int, 0 ≤ c → c < m → rd wt c = (E.countP (fun p => decide (p.1 = c)) : Nat)
  i : ∀ c : Int, 0 ≤ c → c < m → rd_L1 into c = (E.filter (fun p => decide (p.2 = c))).map (·.1)
theorem WI.start (m : Nat) : WI m [] (List.replicate m 0) (List.replicate m []) := by
  refine ⟨by simp, by simp, fun c h0 h1 => by rw [rdi_rep h0 h1]; rfl, fun c h0 h1 => ?_⟩
  rw [rd1_at]
  have : c.toNat < m := by omega
  simp [this]
theorem WI.add {m : Nat} {E : EL} {wt : List Int} {into : List (List Int)} (h : WI m E wt into) {a b : Int} (ha : 0 ≤ a ∧ a < m) (hb : 0 ≤ b ∧ b < m) :
    WI m (E ++ [(a, b)]) (wt.set a.toNat (rd wt a + 1)) (into.set b.toNat (rd_L1 into b ++ [a])) := by
  refine ⟨by rw [List.length_set]; exact h.wl, by rw [List.length_set]; exact h.il, fun c h0 h1 => ?_, fun c h0 h1 => ?_⟩
  · rw [rdi_set ha.1 (by rw [h.wl]; exact ha.2) h0, List.countP_append]
    by_cases e : c = a
    · rw [if_pos e, h.w a ha.1 ha.2, e]; simp
    · rw [if_neg e, h.w c h0 h1]
      have : ¬ a = c := fun e' => e e'.symm
      simp [this]
  · rw [rdl_set hb.1 (by rw [h.il]; exact hb.2) h0, List.filter_append, List.map_append]
    by_cases e : c = b
    · rw [if_pos e, h.i b hb.1 hb.2, e]; simp
    · rw [if_neg e, h.i c h0 h1]
      have : ¬ b = c := fun e' => e e'.symm
      simp [this]
theorem WI.w_le {m : Nat} {E : EL} {wt : List Int} {into : List (List Int)} (h : WI m E wt into) {c : Int} (h0 : 0 ≤ c) (h1 : c < m) : 0 ≤ rd wt c ∧ rd wt c ≤ E.length := by
  rw [h.w c h0 h1]
  have := List.countP_le_length (p := fun p : Int × Int => decide (p.1 = c)) (l := E)
  omega
theorem WI.i_le {m : Nat} {E : EL} {wt : List Int} {into : List (List Int)} (h : WI m E wt into) {c : Int} (h0 : 0 ≤ c) (h1 : c < m) : (rd_L1 into c).length ≤ E.length := by
  rw [h.i c h0 h1, List.length_map]
  exact List.length_filter_le _ _

/-- c is the least one that may be listed behind D. -/
def Stp (E : EL) (m : Nat) (D : List Int) (c : Int) : Prop := (0 ≤ c ∧ c < m) ∧ c ∉ D ∧ (∀ p ∈ E, p.1 = c → p.2 ∈ D) ∧ ∀ c' : Int, 0 ≤ c' → c' < c → c' ∉ D → ∃ p ∈ E, p.1 = c' ∧ p.2 ∉ D
structure Sq (E : EL) (m : Nat) (out : List Int) : Prop where
  st : ∀ k (h : k < out.length), Stp E m (out.take k) out[k]
  all : ∀ c : Int, 0 ≤ c → c < m → c ∈ out
def cw (E : EL) (out : List Int) (c : Int) : Nat := E.countP (fun p => decide (p.1 = c ∧ p.2 ∉ out))
/-- Between two rounds. -/
structure KI (E : EL) (m : Nat) (wt q out : List Int) : Prop where
  wl : wt.length = m
  w : ∀ c : Int, 0 ≤ c → c < m → rd wt c = (cw E out c : Nat)
  srt : q.Pairwise (· < ·)
  mem : ∀ c, c ∈ q ↔ (0 ≤ c ∧ c < m) ∧ c ∉ out ∧ rd wt c = 0
  o : ∀ c ∈ out, (0 ≤ c ∧ c < m) ∧ cw E out c = 0
  nd : out.Nodup
  st : ∀ k (h : k < out.length), Stp E m (out.take k) out[k]
/-- In a round: c has been taken, t of its edges are done. -/
structure KJ (E : EL) (m : Nat) (out : List Int) (c : Int) (L : List Int) (t : Nat) (wt q : List Int) : Prop where
  wl : wt.length = m
  w : ∀ d : Int, 0 ≤ d → d < m → rd wt d = (cw E out d : Int) - ((L.take t).count d : Nat)
  srt : q.Pairwise (· < ·)
  mem : ∀ d, d ∈ q ↔ (0 ≤ d ∧ d < m) ∧ d ∉ out ++ [c] ∧ rd wt d = 0
section
variable {E : EL} {m : Nat} {wt q out : List Int} {c : Int}
theorem cw_zero {d : Int} : cw E out d = 0 ↔ ∀ p ∈ E, p.1 = d → p.2 ∈ out := by
  unfold cw
  rw [List.countP_eq_zero]
  constructor
  · intro h p hp e
    by_cases h2 : p.2 ∈ out
    · exact h2
    · exact absurd (decide_eq_true (p := p.1 = d ∧ p.2 ∉ out) ⟨e, h2⟩) (h p hp)
  · intro h p hp e
    have := of_decide_eq_true e
    exact this.2 (h p hp this.1)
theorem cw_split (hc : c ∉ out) (d : Int) : cw E out d = cw E (out ++ [c]) d + ((E.filter (fun p => decide (p.2 = c))).map (·.1)).count d := by
  unfold cw
  induction E with
  | nil => rfl
  | cons p E ih =>
    simp only [List.countP_cons, List.filter_cons]
    rw [ih]
    by_cases h1 : p.2 = c
    · have h2 : p.2 ∉ out := h1 ▸ hc
      by_cases h3 : p.1 = d
      · simp [h1, h2, h3, hc]; omega
      · simp [h1, h3]
    · by_cases h3 : p.1 = d
      · by_cases h2 : p.2 ∈ out <;> simp [h1, h2, h3] <;> omega
      · simp [h1, h3]
theorem KI.start {into : List (List Int)} (h : WI m E wt into) (hq : q.Pairwise (· < ·)) (hm : ∀ c, c ∈ q ↔ (0 ≤ c ∧ c < m) ∧ rd wt c = 0) : KI E m wt q [] :=
  ⟨h.wl, fun c h0 h1 => by rw [h.w c h0 h1]; unfold cw; congr 1; simp, hq, fun c => by rw [hm]; simp, fun c hc => by simp at hc, List.nodup_nil, fun k hk => by simp at hk⟩
theorem KI.begin (h : KI E m wt (c :: q) out) : KJ E m out c ((E.filter (fun p => decide (p.2 = c))).map (·.1)) 0 wt q := by
  obtain ⟨h1, h2⟩ := List.pairwise_cons.1 h.srt
  refine ⟨h.wl, fun d h0 h1 => by rw [h.w d h0 h1]; simp, h2, fun d => ?_⟩
  have hm := h.mem d
  rw [List.mem_cons] at hm
  constructor
  · intro hd
    obtain ⟨a, b, e⟩ := hm.1 (.inr hd)
    refine ⟨a, fun hh => ?_, e⟩
    rcases List.mem_append.1 hh with hh | hh
    · exact b hh
    · simp at hh; have := h1 d hd; omega
  · rintro ⟨a, b, e⟩
    rcases hm.2 ⟨a, fun hh => b (by simp [hh]), e⟩ with hh | hh
    · exact absurd (by simp [hh]) b
    · exact hh
theorem KI.cin (h : KI E m wt (c :: q) out) : (0 ≤ c ∧ c < m) ∧ c ∉ out ∧ rd wt c = 0 := (h.mem c).1 List.mem_cons_self
theorem take_count {L : List Int} {t : Nat} (ht : t < L.length) (d : Int) : (L.take (t + 1)).count d = (L.take t).count d + if L[t] = d then 1 else 0 := by
  rw [List.take_add_one, List.getElem?_eq_getElem ht, List.count_append]
  by_cases e : L[t] = d
  · simp [e]
  · simp [e]
theorem count_take_lt {L : List Int} {t : Nat} (ht : t < L.length) : (L.take t).count L[t] + 1 ≤ L.count L[t] := by
  have h1 : L.count L[t] = (L.take (t + 1)).count L[t] + (L.drop (t + 1)).count L[t] := by rw [← List.count_append, List.take_append_drop]
  rw [h1, take_count ht, if_pos rfl]; omega
theorem sort_take : ∀ (q : List Int) (a : Int), q.Pairwise (· < ·) → (∀ x ∈ q.take (q.countP (· < a)), x < a) ∧ (∀ x ∈ q.drop (q.countP (· < a)), a ≤ x)
  | [], a, _ => by simp
  | y :: q, a, h => by
    obtain ⟨h1, h2⟩ := List.pairwise_cons.1 h
    obtain ⟨i1, i2⟩ := sort_take q a h2
    by_cases hy : y < a
    · rw [List.countP_cons_of_pos (by simpa using hy), List.take_succ_cons, List.drop_succ_cons]
      refine ⟨fun x hx => ?_, i2⟩
      rcases List.mem_cons.1 hx with rfl | hx
      · exact hy
      · exact i1 x hx
    · have h0 : q.countP (· < a) = 0 := by
        rw [List.countP_eq_zero]
        intro x hx; have := h1 x hx; simp; omega
      rw [List.countP_cons_of_neg (by simpa using hy), h0]
      refine ⟨fun x hx => by simp at hx, fun x hx => ?_⟩
      rw [List.drop_zero] at hx
      rcases List.mem_cons.1 hx with rfl | hx
      · omega
      · have := h1 x hx; omega
theorem insq_srt {a : Int} (h : q.Pairwise (· < ·)) (ha : a ∉ q) : (insq q (q.countP (· < a)) a).Pairwise (· < ·) ∧ ∀ x, x ∈ insq q (q.countP (· < a)) a ↔ x = a ∨ x ∈ q := by
  obtain ⟨h1, h2⟩ := sort_take q a h
  obtain ⟨i, hi⟩ : ∃ i, q.countP (· < a) = i := ⟨_, rfl⟩
  rw [hi] at h1 h2 ⊢
  have hq : q.take i ++ q.drop i = q := List.take_append_drop i q
  have h' := h
  rw [← hq, List.pairwise_append] at h'
  obtain ⟨p1, p2, p3⟩ := h'
  unfold insq
  refine ⟨?_, fun x => ?_⟩
  · rw [List.pairwise_append]
    refine ⟨p1, List.pairwise_cons.2 ⟨fun x hx => ?_, p2⟩, fun x hx y hy => ?_⟩
    · have := h2 x hx
      have : x ≠ a := fun e => ha (e ▸ List.mem_of_mem_drop hx)
      omega
    · rcases List.mem_cons.1 hy with rfl | hy
      · exact h1 x hx
      · exact p3 x hx y hy
  · have : x ∈ q ↔ x ∈ q.take i ∨ x ∈ q.drop i := by rw [← List.mem_append, hq]
    rw [this, List.mem_append, List.mem_cons]
    constructor
    · rintro (h | h | h)
      · exact .inr (.inl h)
      · exact .inl h
      · exact .inr (.inr h)
    · rintro (h | h | h)
      · exact .inr (.inl h)
      · exact .inl h
      · exact .inr (.inr h)
/-- What holds of an edge's start in a round. -/
theorem KJ.head {L : List Int} {t : Nat} (h : KJ E m out c L t wt q) (hL : L = (E.filter (fun p => decide (p.2 = c))).map (·.1)) (hE : ∀ p ∈ E, (0 ≤ p.1 ∧ p.1 < m) ∧ p.1 ≠ p.2) (hc : c ∉ out) (ho : ∀ d ∈ out, cw E out d = 0) (ht : t < L.length) :
    (0 ≤ L[t] ∧ L[t] < m) ∧ L[t] ∉ out ++ [c] ∧ 1 ≤ rd wt L[t] ∧ rd wt L[t] ≤ E.length ∧ L[t] ∉ q := by
  have hm : L[t] ∈ (E.filter (fun p => decide (p.2 = c))).map (·.1) := by rw [← hL]; exact List.getElem_mem ht
  obtain ⟨p, hp, hp2⟩ := List.mem_map.1 hm
  obtain ⟨hp1, hp3⟩ := List.mem_filter.1 hp
  have hp3 := of_decide_eq_true hp3
  obtain ⟨hr, hne⟩ := hE p hp1
  rw [hp2] at hr hne
  have h1 : 1 ≤ rd wt L[t] := by
    rw [h.w _ hr.1 hr.2, cw_split hc L[t], ← hL]
    have := count_take_lt ht
    omega
  have h2 : rd wt L[t] ≤ E.length := by
    rw [h.w _ hr.1 hr.2]
    have := List.countP_le_length (p := fun p : Int × Int => decide (p.1 = L[t] ∧ p.2 ∉ out)) (l := E)
    unfold cw; omega
  refine ⟨hr, fun hh => ?_, h1, h2, fun hh => by have := ((h.mem _).1 hh).2.2; omega⟩
  rcases List.mem_append.1 hh with hh | hh
  · have := cw_zero.1 (ho _ hh) p hp1 hp2
    rw [hp3] at this; exact hc this
  · simp at hh; rw [hh, hp3] at hne; exact hne rfl
theorem KJ.step {L : List Int} {t : Nat} (h : KJ E m out c L t wt q) (ht : t < L.length) (hh : (0 ≤ L[t] ∧ L[t] < m) ∧ L[t] ∉ out ++ [c] ∧ 1 ≤ rd wt L[t] ∧ rd wt L[t] ≤ E.length ∧ L[t] ∉ q) :
    KJ E m out c L (t + 1) (wt.set (L[t]).toNat (rd wt L[t] - 1)) (if rd wt L[t] - 1 = 0 then insq q (q.countP (· < L[t])) L[t] else q) := by
  obtain ⟨hr, hn, h1, _, hq⟩ := hh
  have hs : ∀ d : Int, 0 ≤ d → rd (wt.set (L[t]).toNat (rd wt L[t] - 1)) d = if d = L[t] then rd wt L[t] - 1 else rd wt d := fun d hd => rdi_set hr.1 (by rw [h.wl]; exact hr.2) hd _
  refine ⟨by rw [List.length_set]; exact h.wl, fun d h0 hd => ?_, ?_, fun d => ?_⟩
  · rw [hs d h0, take_count ht]
    by_cases e : d = L[t]
    · rw [if_pos e, if_pos e.symm, h.w _ hr.1 hr.2, e]; omega
    · rw [if_neg e, if_neg (fun e' => e e'.symm), h.w d h0 hd]; simp
  · by_cases e0 : rd wt L[t] - 1 = 0
    · rw [if_pos e0]; exact (insq_srt h.srt hq).1
    · rw [if_neg e0]; exact h.srt
  · by_cases e0 : rd wt L[t] - 1 = 0
    · rw [if_pos e0, (insq_srt h.srt hq).2]
      by_cases e : d = L[t]
      · constructor
        · intro _; subst e; exact ⟨hr, hn, by rw [hs _ hr.1, if_pos rfl]; exact e0⟩
        · intro _; exact .inl e
      · constructor
        · rintro (h3 | h3)
          · exact absurd h3 e
          · obtain ⟨a, b, e3⟩ := (h.mem d).1 h3
            exact ⟨a, b, by rw [hs d a.1, if_neg e]; exact e3⟩
        · rintro ⟨a, b, e3⟩
          rw [hs d a.1, if_neg e] at e3
          exact .inr ((h.mem d).2 ⟨a, b, e3⟩)
    · rw [if_neg e0]
      by_cases e : d = L[t]
      · constructor
        · intro h3; exact absurd (e ▸ h3) hq
        · rintro ⟨a, b, e3⟩
          rw [hs d a.1, if_pos e] at e3; exact absurd e3 e0
      · rw [h.mem d]
        constructor
        · rintro ⟨a, b, e3⟩; exact ⟨a, b, by rw [hs d a.1, if_neg e]; exact e3⟩
        · rintro ⟨a, b, e3⟩; rw [hs d a.1, if_neg e] at e3; exact ⟨a, b, e3⟩
theorem KJ.done {q0 wt0 : List Int} {L : List Int} (h0 : KI E m wt0 (c :: q0) out) (hL : L = (E.filter (fun p => decide (p.2 = c))).map (·.1)) (h : KJ E m out c L L.length wt q) : KI E m wt q (out ++ [c]) := by
  obtain ⟨hc, hn, hz⟩ := h0.cin
  have hcz : cw E out c = 0 := by have := h0.w c hc.1 hc.2; omega
  refine ⟨h.wl, fun d g0 g1 => ?_, h.srt, h.mem, fun d hd => ?_, ?_, fun k hk => ?_⟩
  · rw [h.w d g0 g1, List.take_length, cw_split hn d, ← hL]; omega
  · rcases List.mem_append.1 hd with hd | hd
    · refine ⟨(h0.o d hd).1, ?_⟩
      have := (h0.o d hd).2
      have h9 := cw_split (E := E) hn d
      omega
    · simp at hd; subst hd
      have h9 := cw_split (E := E) hn d
      exact ⟨hc, by omega⟩
  · rw [List.nodup_append]
    exact ⟨h0.nd, by simp, fun a ha b hb => by simp at hb; rw [hb]; exact fun e => hn (e ▸ ha)⟩
  · rw [List.length_append, List.length_singleton] at hk
    by_cases hkl : k < out.length
    · rw [List.getElem_append_left hkl, List.take_append_of_le_length (by omega)]
      exact h0.st k hkl
    · have hke : k = out.length := by omega
      subst hke
      rw [List.take_append_of_le_length (Nat.le_refl _), List.take_length, List.getElem_append_right (Nat.le_refl _)]
      simp only [Nat.sub_self, List.getElem_singleton]
      refine ⟨hc, hn, cw_zero.1 hcz, fun c' g0 g1 g2 => ?_⟩
      by_cases hw : cw E out c' = 0
      · have h3 : c' ∈ c :: q0 := (h0.mem c').2 ⟨⟨g0, by omega⟩, g2, by rw [h0.w c' g0 (by omega), hw]; rfl⟩
        rcases List.mem_cons.1 h3 with h3 | h3
        · omega
        · have := (List.pairwise_cons.1 h0.srt).1 c' h3; omega
      · have h3 : ¬ ∀ p ∈ E, p.1 = c' → p.2 ∈ out := fun h4 => hw (cw_zero.2 h4)
        simp only [Classical.not_forall] at h3
        obtain ⟨p, hp, e, hno⟩ := h3
        exact ⟨p, hp, e, hno⟩
theorem KI.fin (h : KI E m wt [] out) (ρ : Int → Nat) (hE : ∀ p ∈ E, (0 ≤ p.2 ∧ p.2 < m) ∧ ρ p.2 < ρ p.1) : Sq E m out := by
  refine ⟨h.st, ?_⟩
  have key : ∀ (k : Nat) (c : Int), ρ c ≤ k → 0 ≤ c → c < m → c ∈ out := by
    intro k
    induction k with
    | zero =>
      intro c hk h0 h1
      by_cases hc : c ∈ out
      · exact hc
      · have h2 : rd wt c ≠ 0 := fun e => by have := (h.mem c).2 ⟨⟨h0, h1⟩, hc, e⟩; cases this
        rw [h.w c h0 h1] at h2
        have h3 : ¬ ∀ p ∈ E, p.1 = c → p.2 ∈ out := fun h4 => h2 (by rw [cw_zero.2 h4]; rfl)
        simp only [Classical.not_forall] at h3
        obtain ⟨p, hp, e, _⟩ := h3
        have := (hE p hp).2
        rw [e] at this; omega
    | succ k ih =>
      intro c hk h0 h1
      by_cases hc : c ∈ out
      · exact hc
      · have h2 : rd wt c ≠ 0 := fun e => by have := (h.mem c).2 ⟨⟨h0, h1⟩, hc, e⟩; cases this
        rw [h.w c h0 h1] at h2
        have h3 : ¬ ∀ p ∈ E, p.1 = c → p.2 ∈ out := fun h4 => h2 (by rw [cw_zero.2 h4]; rfl)
        simp only [Classical.not_forall] at h3
        obtain ⟨p, hp, e, hno⟩ := h3
        have h5 := hE p hp
        rw [e] at h5
        exact absurd (ih p.2 (by omega) h5.1.1 h5.1.2) hno
  exact fun c h0 h1 => key (ρ c) c (Nat.le_refl _) h0 h1
theorem KI.len (h : KI E m wt q out) : out.length ≤ m ∧ q.length ≤ m := by
  refine ⟨?_, ?_⟩
  · have := Grf.Tj.nodup_len out ((List.range m).map fun (i : Nat) => (i : Int)) h.nd (fun x hx => by
      obtain ⟨⟨h1, h2⟩, _⟩ := h.o x hx
      exact List.mem_map.2 ⟨x.toNat, List.mem_range.2 (by omega), by omega⟩)
    simpa using this
  · have h1 : q.Nodup := h.srt.imp (fun {a b} hlt e => by omega)
    have := Grf.Tj.nodup_len q ((List.range m).map fun (i : Nat) => (i : Int)) h1 (fun x hx => by
      obtain ⟨⟨h1, h2⟩, _⟩ := (h.mem x).1 hx
      exact List.mem_map.2 ⟨x.toNat, List.mem_range.2 (by omega), by omega⟩)
    simpa using this
theorem KJ.len {L : List Int} {t : Nat} (h : KJ E m out c L t wt q) : q.length ≤ m := by
  have h1 : q.Nodup := h.srt.imp (fun {a b} hlt e => by omega)
  have := Grf.Tj.nodup_len q ((List.range m).map fun (i : Nat) => (i : Int)) h1 (fun x hx => by
    obtain ⟨⟨h1, h2⟩, _⟩ := (h.mem x).1 hx
    exact List.mem_map.2 ⟨x.toNat, List.mem_range.2 (by omega), by omega⟩)
  simpa using this
end
end Go.Proofs.Ytmlikgmcekofbaa
end

section
/- What the list of components is: one list, whoever makes it; and that Kahn's order over the components gives it. -/
set_option linter.unusedVariables false
set_option linter.unusedSimpArgs false
set_option linter.unusedSectionVars false
namespace Go.Proofs.Ytmlikgmcekofbaa
open Go.RowKit Go.Proofs.YtmlikgmcekofbaaW.PrintWords Go.Proofs.Ytmlikgmcekofbaa.PDigraphTells Mem

abbrev Eqv (G : List (List Int)) (x y : Int) : Prop := Grf.Reach (adj G) x y ∧ Grf.Reach (adj G) y x
/-- All that x reaches lies in its own component or in D. -/
def Rdy (G : List (List Int)) (D : List Int) (x : Int) : Prop := ∀ y, Grf.Reach (adj G) x y → Grf.Reach (adj G) y x ∨ y ∈ D
structure PartOf (G : List (List Int)) (x : Int) (l : List Int) : Prop where
  srt : l.Pairwise (· < ·)
  mem : ∀ z, z ∈ l ↔ isNode G z ∧ Eqv G x z
/-- l is what is listed behind D. -/
def Nxt (G : List (List Int)) (D : List Int) (l : List Int) : Prop := ∃ x, isNode G x ∧ x ∉ D ∧ Rdy G D x ∧ (∀ y, isNode G y → y < x → y ∉ D → ¬ Rdy G D y) ∧ PartOf G x l
structure IsC (G : List (List Int)) (L : List (List Int)) : Prop where
  st : ∀ k (h : k < L.length), Nxt G (L.take k).flatten L[k]
  all : ∀ x, isNode G x → x ∈ L.flatten
theorem PartOf.uniq {G : List (List Int)} {x : Int} {l m : List Int} (h : PartOf G x l) (k : PartOf G x m) : l = m := by
  have key : ∀ (l m : List Int), l.Pairwise (· < ·) → m.Pairwise (· < ·) → (∀ z, z ∈ l ↔ z ∈ m) → l = m := by
    intro l
    induction l with
    | nil =>
      intro m _ _ hm
      cases m with
      | nil => rfl
      | cons b m => exact absurd ((hm b).2 List.mem_cons_self) (by simp)
    | cons a l ih =>
      intro m hl hm he
      obtain ⟨l1, l2⟩ := List.pairwise_cons.1 hl
      cases m with
      | nil => exact absurd ((he a).1 List.mem_cons_self) (by simp)
      | cons b m =>
        obtain ⟨m1, m2⟩ := List.pairwise_cons.1 hm
        have hab : a = b := by
          rcases List.mem_cons.1 ((he a).1 List.mem_cons_self) with e | e
          · exact e
          · rcases List.mem_cons.1 ((he b).2 List.mem_cons_self) with e2 | e2
            · exact e2.symm
            · have := m1 a e; have := l1 b e2; omega
        subst hab
        rw [ih m l2 m2 (fun z => ?_)]
        have hz := he z
        rw [List.mem_cons, List.mem_cons] at hz
        constructor
        · intro hh
          rcases hz.1 (.inr hh) with e | e
          · have := l1 z hh; omega
          · exact e
        · intro hh
          rcases hz.2 (.inr hh) with e | e
          · have := m1 z hh; omega
          · exact e
  exact key l m h.srt k.srt (fun z => by rw [h.mem, k.mem])
theorem Nxt.uniq {G : List (List Int)} {D l m : List Int} (h : Nxt G D l) (k : Nxt G D m) : l = m := by
  obtain ⟨x, x1, x2, x3, x4, x5⟩ := h
  obtain ⟨y, y1, y2, y3, y4, y5⟩ := k
  have hxy : x = y := by
    rcases Int.lt_trichotomy x y with h | h | h
    · exact absurd x3 (y4 x x1 h x2)
    · exact h
    · exact absurd y3 (x4 y y1 h y2)
  subst hxy
  exact x5.uniq y5
theorem IsC.take {G : List (List Int)} {L M : List (List Int)} (h : IsC G L) (k : IsC G M) : ∀ n, n ≤ L.length → n ≤ M.length → L.take n = M.take n
  | 0, _, _ => by simp
  | n + 1, h1, h2 => by
    have ih := IsC.take h k n (by omega) (by omega)
    have h3 := h.st n (by omega)
    have h4 := k.st n (by omega)
    rw [← ih] at h4
    have h5 := h3.uniq h4
    rw [List.take_add_one, List.take_add_one, ih, List.getElem?_eq_getElem (by omega), List.getElem?_eq_getElem (by omega), h5]
theorem IsC.le {G : List (List Int)} {L M : List (List Int)} (h : IsC G L) (k : IsC G M) : M.length ≤ L.length := by
  rcases Nat.lt_or_ge L.length M.length with hlt | hge
  · have ht := IsC.take h k L.length (Nat.le_refl _) (by omega)
    rw [List.take_length] at ht
    obtain ⟨x, x1, x2, _⟩ := k.st L.length hlt
    rw [← ht] at x2
    exact absurd (h.all x x1) x2
  · exact hge
theorem IsC.uniq {G : List (List Int)} {L M : List (List Int)} (h : IsC G L) (k : IsC G M) : L = M := by
  have e : L.length = M.length := Nat.le_antisymm (k.le h) (h.le k)
  have := IsC.take h k L.length (Nat.le_refl _) (by omega)
  rwa [List.take_length, e, List.take_length] at this

/-- The edges between components. -/
structure EG (G : List (List Int)) (of : List Int) (E : EL) : Prop where
  mem : ∀ p, p ∈ E ↔ ∃ a b, isNode G a ∧ b ∈ adj G a ∧ rd of a ≠ rd of b ∧ p = (rd of a, rd of b)
/-- How many nodes are reached. -/
noncomputable def rk (G : List (List Int)) (x : Int) : Nat := by
  classical
  exact ((nodes G).filter (fun y => decide (Grf.Reach (adj G) x y))).length
theorem rk_eqv {G : List (List Int)} {x y : Int} (h : Eqv G x y) : rk G x = rk G y := by
  classical
  unfold rk
  congr 1
  exact List.filter_congr (fun z _ => decide_eq_decide.2 ⟨fun hz => h.2.trans hz, fun hz => h.1.trans hz⟩)
theorem rk_lt {G : List (List Int)} {x y : Int} (hx : isNode G x) (h : Grf.Reach (adj G) x y) (hn : ¬ Grf.Reach (adj G) y x) : rk G y < rk G x := by
  classical
  unfold rk
  exact Grf.filter_lt _ _ (nodes G) (fun z _ hz => decide_eq_true (h.trans (of_decide_eq_true hz))) ⟨x, (mem_nodes G x).2 hx, decide_eq_false hn, decide_eq_true (.refl x)⟩
section
variable {G : List (List Int)} {cs : List (List Int)} {of out : List Int} {E : EL}
theorem CI.at_ (h : CI G cs of) (hG : okG G) {p : Int × Int} (hE : EG G of E) (hp : p ∈ E) : (0 ≤ p.1 ∧ p.1 < cs.length) ∧ (0 ≤ p.2 ∧ p.2 < cs.length) ∧ p.1 ≠ p.2 := by
  obtain ⟨a, b, ha, hb, hne, rfl⟩ := (hE.mem p).1 hp
  exact ⟨h.rng a ha, h.rng b (hG.adj ha hb), hne⟩
/-- A rank of the components that falls along the edges. -/
theorem CI.rank (h : CI G cs of) (hG : okG G) (hE : EG G of E) : ∃ ρ : Int → Nat, ∀ p ∈ E, (0 ≤ p.2 ∧ p.2 < cs.length) ∧ ρ p.2 < ρ p.1 := by
  classical
  have hex : ∀ k : Int, ∃ x : Int, (0 ≤ k ∧ k < cs.length) → x ∈ rd_L1 cs k := fun k => by
    by_cases hk : 0 ≤ k ∧ k < cs.length
    · obtain ⟨z, hz⟩ := List.exists_mem_of_ne_nil _ (h.srt k hk.1 hk.2).2
      exact ⟨z, fun _ => hz⟩
    · exact ⟨0, fun hh => absurd hh hk⟩
  obtain ⟨f, hf⟩ := Classical.axiomOfChoice hex
  refine ⟨fun k => rk G (f k), fun p hp => ?_⟩
  obtain ⟨h1, h2, hne⟩ := h.at_ hG hE hp
  obtain ⟨a, b, ha, hb, hne, rfl⟩ := (hE.mem p).1 hp
  refine ⟨h2, ?_⟩
  have hbn := hG.adj ha hb
  have m1 := (h.mem _ h1.1 h1.2 _).1 (hf _ h1)
  have m2 := (h.mem _ h2.1 h2.2 _).1 (hf _ h2)
  have e1 := (h.eqv _ a m1.1 ha).1 m1.2
  have e2 := (h.eqv _ b m2.1 hbn).1 m2.2
  show rk G (f (rd of b)) < rk G (f (rd of a))
  rw [rk_eqv e1, rk_eqv e2]
  refine rk_lt ha (.one hb) (fun hr => hne ?_)
  exact (h.eqv a b ha hbn).2 ⟨.one hb, hr⟩
theorem flat_mem (h : CI G cs of) {D : List Int} (hD : ∀ c ∈ D, 0 ≤ c ∧ c < cs.length) (z : Int) : z ∈ (D.map (rd_L1 cs)).flatten ↔ isNode G z ∧ rd of z ∈ D := by
  rw [List.mem_flatten]
  constructor
  · rintro ⟨l, hl, hz⟩
    obtain ⟨c, hc, rfl⟩ := List.mem_map.1 hl
    have h1 := hD c hc
    have := (h.mem c h1.1 h1.2 z).1 hz
    exact ⟨this.1, by rw [this.2]; exact hc⟩
  · rintro ⟨h1, h2⟩
    have h3 := hD _ h2
    exact ⟨_, List.mem_map.2 ⟨_, h2, rfl⟩, (h.mem _ h3.1 h3.2 z).2 ⟨h1, rfl⟩⟩
theorem Sq.rng (h : Sq E cs.length out) : ∀ c ∈ out, 0 ≤ c ∧ c < cs.length := fun c hc => by
  obtain ⟨k, hk, rfl⟩ := List.getElem_of_mem hc
  exact (h.st k hk).1
theorem Sq.closed (h : Sq E cs.length out) : ∀ k, k ≤ out.length → ∀ p ∈ E, p.1 ∈ out.take k → p.2 ∈ out.take k
  | 0, _, p, _, hp => by simp at hp
  | k + 1, hk, p, hpE, hp => by
    rw [List.take_add_one, List.getElem?_eq_getElem (by omega)] at hp ⊢
    rcases List.mem_append.1 hp with hp | hp
    · exact List.mem_append.2 (.inl (Sq.closed h k (by omega) p hpE hp))
    · have e : p.1 = out[k] := by simpa using hp
      exact List.mem_append.2 (.inl ((h.st k (by omega)).2.2.1 p hpE e))
/-- The components in Kahn's order are the list. -/
theorem CI.isC (h : CI G cs of) (hG : okG G) (hE : EG G of E) (hS : Sq E cs.length out) : IsC G (out.map (rd_L1 cs)) := by
  have hrng := hS.rng
  refine ⟨fun k hk => ?_, fun x hx => (flat_mem h hrng x).2 ⟨hx, hS.all _ (h.rng x hx).1 (h.rng x hx).2⟩⟩
  rw [List.length_map] at hk
  obtain ⟨hc, hcD, hed, hleast⟩ := hS.st k hk
  have hDr : ∀ c ∈ out.take k, 0 ≤ c ∧ c < cs.length := fun c hc => hrng c (List.mem_of_mem_take hc)
  have hfm := fun z => flat_mem h hDr z
  rw [List.getElem_map, ← List.map_take]
  obtain ⟨c, hce⟩ : ∃ c, out[k] = c := ⟨_, rfl⟩
  rw [hce] at hc hcD hed hleast ⊢
  obtain ⟨hsrt, hnn⟩ := h.srt c hc.1 hc.2
  obtain ⟨x, rest, hxr⟩ : ∃ x rest, rd_L1 cs c = x :: rest := by
    cases hl : rd_L1 cs c with
    | nil => exact absurd hl hnn
    | cons a l => exact ⟨a, l, rfl⟩
  have hxm := (h.mem c hc.1 hc.2 x).1 (by rw [hxr]; exact List.mem_cons_self)
  have hxl : ∀ z ∈ rd_L1 cs c, x ≤ z := fun z hz => by
    rw [hxr] at hz hsrt
    rcases List.mem_cons.1 hz with rfl | hz
    · exact Int.le_refl _
    · have := (List.pairwise_cons.1 hsrt).1 z hz; omega
  have hreach : ∀ y, Grf.Reach (adj G) x y → isNode G y ∧ (rd of y = c ∨ rd of y ∈ out.take k) := fun y hr => by
    induction hr with
    | refl => exact ⟨hxm.1, .inl hxm.2⟩
    | tail _ e ih =>
      obtain ⟨i1, i2⟩ := ih
      rename_i b b' _
      have hb' := hG.adj i1 e
      refine ⟨hb', ?_⟩
      by_cases hsame : rd of b = rd of b'
      · rw [← hsame]; exact i2
      · have hp : (rd of b, rd of b') ∈ E := (hE.mem _).2 ⟨b, b', i1, e, hsame, rfl⟩
        rcases i2 with i2 | i2
        · exact .inr (hed _ hp i2)
        · exact .inr (hS.closed k (by omega) _ hp i2)
  refine ⟨x, hxm.1, fun hx => hcD (by have := ((hfm x).1 hx).2; rwa [hxm.2] at this), fun y hr => ?_, fun y hy hlt hyD hrdy => ?_, ⟨h.srt c hc.1 hc.2 |>.1, fun z => ?_⟩⟩
  · obtain ⟨h1, h2⟩ := hreach y hr
    rcases h2 with h2 | h2
    · exact .inl ((h.eqv x y hxm.1 h1).1 (by rw [hxm.2, h2])).2
    · exact .inr ((hfm y).2 ⟨h1, h2⟩)
  · obtain ⟨c', hc'⟩ : ∃ c', rd of y = c' := ⟨_, rfl⟩
    have hcr := h.rng y hy
    rw [hc'] at hcr
    have hc'D : c' ∉ out.take k := fun hh => hyD ((hfm y).2 ⟨hy, by rw [hc']; exact hh⟩)
    have hyc' : y ∈ rd_L1 cs c' := (h.mem c' hcr.1 hcr.2 y).2 ⟨hy, hc'⟩
    have hne : c' ≠ c := fun e => by
      rw [e] at hyc'
      have := hxl y hyc'; omega
    have hlt' : c' < c := by
      rcases Int.lt_trichotomy c' c with h1 | h1 | h1
      · exact h1
      · exact absurd h1 hne
      · obtain ⟨z, hz, hzz⟩ := h.ord c c' hc.1 h1 hcr.2
        have := hxl z hz; have := hzz y hyc'; omega
    obtain ⟨p, hp, hp1, hp2⟩ := hleast c' hcr.1 hlt' hc'D
    obtain ⟨a, b, ha, hb, hab, rfl⟩ := (hE.mem p).1 hp
    simp only at hp1 hp2
    have hbn := hG.adj ha hb
    have hya := (h.eqv y a hy ha).1 (by rw [hc', hp1])
    have hyb : Grf.Reach (adj G) y b := hya.1.trans (.one hb)
    rcases hrdy b hyb with h1 | h1
    · have := (h.eqv y b hy hbn).2 ⟨hyb, h1⟩
      rw [hc', ← hp1] at this
      exact hab this
    · exact hp2 ((hfm b).1 h1).2
  · rw [h.mem c hc.1 hc.2 z]
    constructor
    · rintro ⟨h1, h2⟩; exact ⟨h1, (h.eqv x z hxm.1 h1).1 (by rw [hxm.2, h2])⟩
    · rintro ⟨h1, h2⟩; exact ⟨h1, by rw [← (h.eqv x z hxm.1 h1).2 h2, hxm.2]⟩
end
end Go.Proofs.Ytmlikgmcekofbaa
end

