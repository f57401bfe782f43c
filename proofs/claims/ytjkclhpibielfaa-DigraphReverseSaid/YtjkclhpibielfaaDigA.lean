/- The small printed functions of chapter 6 in plain lists. -/
import Derived.Test.YtjkclhpibielfaaQDigx2
import Derived.Test.YtjkclhpibielfaaQDigx3
import Derived.Test.YtjkclhpibielfaaQDigx4
import Derived.Test.YtjkclhpibielfaaQDigx5
import Derived.Test.YtjkclhpibielfaaQDigx6
import Derived.Test.YtjkclhpibielfaaQDigx7
import Derived.Test.YtjkclhpibielfaaQDigx8
import Derived.Test.YtjkclhpibielfaaQDigx9
import Derived.Test.YtjkclhpibielfaaFar
set_option linter.unusedVariables false
set_option linter.unusedSimpArgs false
namespace Go.Proofs.Ytjkclhpibielfaa
open Go.RowKit Go.Proofs.YtjkclhpibielfaaW.PrintWords Go.Proofs.Ytjkclhpibielfaa.PDigraphTells

/-- From some fuel on, g answers r. -/
def Ev {α : Type} (g : Nat → Option α) (r : α) : Prop := ∃ K, ∀ k, K ≤ k → g k = some r
theorem Ev.suc {α : Type} {g h : Nat → Option α} {r : α} (e : ∀ k, g (k + 1) = h k) (H : Ev h r) : Ev g r := by
  obtain ⟨K, hK⟩ := H
  refine ⟨K + 1, fun k hk => ?_⟩
  obtain ⟨m, rfl⟩ : ∃ m, k = m + 1 := ⟨k - 1, by omega⟩
  rw [e]
  exact hK m (by omega)
theorem Ev.ret {α : Type} (r : α) : Ev (fun _ => some r) r := ⟨0, fun _ _ => rfl⟩
theorem Ev.bind {α β : Type} {g : Nat → Option α} {G : Nat → α → Option β} {a : α} {r : β} (h : Ev g a) (H : Ev (fun k => G k a) r) : Ev (fun k => (g k).bind (G k)) r := by
  obtain ⟨K, hK⟩ := h
  obtain ⟨L, hL⟩ := H
  refine ⟨K + L, fun k hk => ?_⟩
  show (g k).bind (G k) = some r
  rw [hK k (by omega), Option.bind_some]
  exact hL k (by omega)
theorem Ev.get {α : Type} {g : Nat → Option α} {r : α} (h : Ev g r) : ∃ k, g k = some r := by
  obtain ⟨K, hK⟩ := h
  exact ⟨K, hK K (Nat.le_refl _)⟩
theorem Ev.of {α : Type} {g h : Nat → Option α} {r : α} (e : ∀ k, g k = h k) (H : Ev h r) : Ev g r := by
  obtain ⟨K, hK⟩ := H
  exact ⟨K, fun k hk => by rw [e]; exact hK k hk⟩

theorem rd_get (l : List Int) (i : Nat) (h : i < l.length) : rd l (i : Int) = l[i] := by
  simp [rd, h]
theorem rd1_get (l : List (List Int)) (i : Nat) (h : i < l.length) : rd_L1 l (i : Int) = l[i] := by
  simp [rd_L1, h]
theorem w64 (i n : Nat) (h : i < n) (hn : n < 4611686018427387904) : wrap64 ((i : Int) + 1) = ((i + 1 : Nat) : Int) := by
  unfold wrap64; omega

/-- A node of the graph. -/
def isNode (G : List (List Int)) (s : Int) : Prop := 0 ≤ s ∧ s < G.length
instance (G : List (List Int)) (s : Int) : Decidable (isNode G s) := by unfold isNode; infer_instance
def okRows (G : List (List Int)) : Bool := G.all fun l => l.all fun s => decide (isNode G s)
def chk (G : List (List Int)) : Int := if G.length > 65536 then 11 else if okRows G = true then 0 else 10
theorem okRows_iff (G : List (List Int)) : okRows G = true ↔ ∀ l ∈ G, ∀ s ∈ l, isNode G s := by
  unfold okRows; simp [List.all_eq_true]
theorem chk_ok {G : List (List Int)} : chk G = 0 ↔ G.length ≤ 65536 ∧ ∀ l ∈ G, ∀ s ∈ l, isNode G s := by
  unfold chk
  rw [← okRows_iff]
  split
  · simp; omega
  · split
    · rename_i h1 h2; simp [h2]; omega
    · rename_i h1 h2; simp [h2]
def short (G : List (List Int)) : Prop := G.length < 4611686018427387904 ∧ ∀ l ∈ G, l.length < 4611686018427387904

theorem chk_l1_good (G : List (List Int)) (hl : G.length < 4611686018427387904) (i : Nat) (row : List Int) (hr : row.length < 4611686018427387904) (r : Int) (hK : Ev (fun k => digraph_Check.l0 k G (G.length : Int) (wrap64 ((i : Int) + 1)) G) r) :
    ∀ (d j : Nat), j + d = row.length → (∀ s ∈ row.drop j, isNode G s) → Ev (fun k => digraph_Check.l1 k G (G.length : Int) (i : Int) row (row.length : Int) (j : Int) G) r := by
  intro d
  induction d with
  | zero =>
    intro j hj _
    refine Ev.suc (fun k => ?_) hK
    simp only [digraph_Check.l1]
    rw [if_neg (by omega)]
  | succ d ih =>
    intro j hj hs
    have hlt : j < row.length := by omega
    rw [List.drop_eq_getElem_cons hlt] at hs
    have h1 := hs _ List.mem_cons_self
    refine Ev.suc (fun k => ?_) (ih (j + 1) (by omega) (fun s h => hs s (List.mem_cons_of_mem _ h)))
    simp only [digraph_Check.l1]
    rw [if_pos (by omega), if_pos (by omega), if_pos (by omega), rd_get row j hlt, if_neg (by unfold isNode at h1; omega), if_neg (by unfold isNode at h1; omega), w64 j row.length hlt hr]
theorem chk_l1_bad (G : List (List Int)) (i : Nat) (row : List Int) (hr : row.length < 4611686018427387904) :
    ∀ (d j : Nat), j + d = row.length → (∃ s ∈ row.drop j, ¬ isNode G s) → Ev (fun k => digraph_Check.l1 k G (G.length : Int) (i : Int) row (row.length : Int) (j : Int) G) 10 := by
  intro d
  induction d with
  | zero =>
    intro j hj hs
    rw [List.drop_eq_nil_of_le (by omega)] at hs
    obtain ⟨s, h, _⟩ := hs
    cases h
  | succ d ih =>
    intro j hj hs
    have hlt : j < row.length := by omega
    by_cases h1 : isNode G row[j]
    · refine Ev.suc (fun k => ?_) (ih (j + 1) (by omega) ?_)
      · simp only [digraph_Check.l1]
        rw [if_pos (by omega), if_pos (by omega), if_pos (by omega), rd_get row j hlt, if_neg (by unfold isNode at h1; omega), if_neg (by unfold isNode at h1; omega), w64 j row.length hlt hr]
      · rw [List.drop_eq_getElem_cons hlt] at hs
        obtain ⟨s, h2, h3⟩ := hs
        rcases List.mem_cons.1 h2 with h4 | h4
        · exact absurd (by rw [h4]; exact h1) h3
        · exact ⟨s, h4, h3⟩
    · refine Ev.suc (fun k => ?_) (Ev.ret 10)
      simp only [digraph_Check.l1]
      rw [if_pos (by omega), if_pos (by omega), if_pos (by omega), rd_get row j hlt]
      by_cases h2 : row[j] < 0
      · rw [if_pos h2]
      · rw [if_neg h2, if_pos (by unfold isNode at h1; omega)]
theorem chk_l0 (G : List (List Int)) (hs : short G) : ∀ (d i : Nat), i + d = G.length → Ev (fun k => digraph_Check.l0 k G (G.length : Int) (i : Int) G) (if (G.drop i).all (fun l => l.all fun s => decide (isNode G s)) = true then 0 else 10) := by
  intro d
  induction d with
  | zero =>
    intro i hi
    rw [List.drop_eq_nil_of_le (by omega)]
    refine Ev.suc (fun k => ?_) (Ev.ret 0)
    simp only [digraph_Check.l0]
    rw [if_neg (by omega)]
  | succ d ih =>
    intro i hi
    have hlt : i < G.length := by omega
    have hr := hs.2 _ (List.getElem_mem hlt)
    have hstep : ∀ k, digraph_Check.l0 (k + 1) G (G.length : Int) (i : Int) G = digraph_Check.l1 k G (G.length : Int) (i : Int) G[i] (G[i].length : Int) ((0 : Nat) : Int) G := by
      intro k
      simp only [digraph_Check.l0]
      rw [if_pos (by omega), if_pos (by omega), if_pos (by omega), rd1_get G i hlt]
      rfl
    rw [List.drop_eq_getElem_cons hlt, List.all_cons]
    by_cases h : (G[i].all fun s => decide (isNode G s)) = true
    · rw [h, Bool.true_and]
      refine Ev.suc hstep (chk_l1_good G hs.1 i G[i] hr _ ?_ G[i].length 0 (by omega) ?_)
      · rw [w64 i G.length hlt hs.1]; exact ih (i + 1) (by omega)
      · intro s h2; rw [List.drop_zero] at h2; simpa using List.all_eq_true.1 h s h2
    · rw [Bool.not_eq_true] at h
      rw [h, Bool.false_and, if_neg (by simp)]
      refine Ev.suc hstep (chk_l1_bad G i G[i] hr G[i].length 0 (by omega) ?_)
      rw [List.all_eq_false] at h
      obtain ⟨s, h2, h3⟩ := h
      exact ⟨s, by rw [List.drop_zero]; exact h2, by simpa using h3⟩
theorem chk_f (G : List (List Int)) (hs : short G) : Ev (fun k => digraph_Check.f k G) (chk G) := by
  unfold digraph_Check.f chk
  by_cases h : G.length > 65536
  · rw [if_pos h]
    exact Ev.of (fun k => by rw [if_pos (by omega)]) (Ev.ret 11)
  · rw [if_neg h]
    refine Ev.of (fun k => by rw [if_neg (by omega)]) ?_
    have := chk_l0 G hs G.length 0 (by omega)
    rw [List.drop_zero] at this
    exact this
theorem rchk_l : ∀ k, (∀ a b c d, burnishref06_Check.l0 k a b c d = digraph_Check.l0 k a b c d) ∧ (∀ a b c d e f g, burnishref06_Check.l1 k a b c d e f g = digraph_Check.l1 k a b c d e f g)
  | 0 => ⟨fun _ _ _ _ => by simp only [burnishref06_Check.l0, digraph_Check.l0], fun _ _ _ _ _ _ _ => by simp only [burnishref06_Check.l1, digraph_Check.l1]⟩
  | k + 1 => ⟨fun _ _ _ _ => by simp only [burnishref06_Check.l0, digraph_Check.l0, (rchk_l k).2], fun _ _ _ _ _ _ _ => by simp only [burnishref06_Check.l1, digraph_Check.l1, (rchk_l k).1, (rchk_l k).2]⟩
theorem rchk_f (G : List (List Int)) (hs : short G) : Ev (fun k => burnishref06_Check.f k G) (chk G) :=
  Ev.of (fun k => by unfold burnishref06_Check.f digraph_Check.f; rw [(rchk_l k).1]) (chk_f G hs)
theorem ok_f (G : List (List Int)) (hs : short G) (a : Int) : Ev (fun k => burnishref06_ok.f k G a) (decide (chk G = 0 ∧ isNode G a)) := by
  unfold burnishref06_ok.f
  refine Ev.bind (rchk_f G hs) ?_
  unfold isNode
  by_cases h : chk G = 0
  · by_cases h2 : 0 ≤ a
    · refine Ev.of (fun k => by rw [if_pos h, if_pos h2]) ?_
      simp only [h, h2, true_and]
      exact Ev.ret _
    · refine Ev.of (fun k => by rw [if_pos h, if_neg h2]) ?_
      simp only [h2, false_and, and_false]
      exact Ev.ret _
  · refine Ev.of (fun k => by rw [if_neg h]) ?_
    simp only [h, false_and]
    exact Ev.ret _
def hasG (G : List (List Int)) (ns : List Int) : Bool := ns.all (fun a => decide (isNode G a)) && decide (chk G = 0)
theorem hasG_iff (G : List (List Int)) (ns : List Int) : hasG G ns = true ↔ (∀ a ∈ ns, isNode G a) ∧ chk G = 0 := by
  unfold hasG; simp [List.all_eq_true]
theorem has_l0 (G : List (List Int)) (hs : short G) (ns : List Int) (hn : ns.length < 1000) : ∀ (d i : Nat), i + d = ns.length → Ev (fun k => digraph_has.l0 k ns (ns.length : Int) (i : Int) G) (hasG G (ns.drop i)) := by
  intro d
  induction d with
  | zero =>
    intro i hi
    rw [List.drop_eq_nil_of_le (by omega)]
    have h1 : ∀ k, digraph_has.l0 (k + 1) ns (ns.length : Int) (i : Int) G = (digraph_Check.f k G).bind fun t147 => some (t147 == 0) := by
      intro k
      simp only [digraph_has.l0]
      rw [if_neg (by omega)]
    refine Ev.suc h1 (Ev.bind (chk_f G hs) ?_)
    have : (chk G == 0) = hasG G [] := by simp [hasG, BEq.beq]
    rw [this]
    exact Ev.ret _
  | succ d ih =>
    intro i hi
    have hlt : i < ns.length := by omega
    rw [List.drop_eq_getElem_cons hlt]
    by_cases h : isNode G ns[i]
    · have : hasG G (ns[i] :: ns.drop (i + 1)) = hasG G (ns.drop (i + 1)) := by
        unfold hasG; rw [List.all_cons, decide_eq_true h, Bool.true_and]
      rw [this]
      refine Ev.suc (fun k => ?_) (ih (i + 1) (by omega))
      simp only [digraph_has.l0]
      rw [if_pos (by omega), if_pos (by omega), if_pos (by omega), rd_get ns i hlt, if_neg (by unfold isNode at h; omega), if_neg (by unfold isNode at h; omega), w64 i ns.length hlt (by omega)]
    · have : hasG G (ns[i] :: ns.drop (i + 1)) = false := by
        unfold hasG; rw [List.all_cons, decide_eq_false h, Bool.false_and, Bool.false_and]
      rw [this]
      refine Ev.suc (fun k => ?_) (Ev.ret false)
      simp only [digraph_has.l0]
      rw [if_pos (by omega), if_pos (by omega), if_pos (by omega), rd_get ns i hlt]
      by_cases h2 : ns[i] < 0
      · rw [if_pos h2]
      · rw [if_neg h2, if_pos (by unfold isNode at h; omega)]
theorem has_f (G : List (List Int)) (hs : short G) (ns : List Int) (hn : ns.length < 1000) : Ev (fun k => digraph_has.f k G ns) (hasG G ns) := by
  have := has_l0 G hs ns hn ns.length 0 (by omega)
  rw [List.drop_zero] at this
  exact this

/-! ### The comparisons. -/
theorem same_l0 (a b : List Int) (hab : a.length = b.length) (hm : a.length < 4611686018427387904) : ∀ (d i : Nat), i + d = a.length → Ev (fun k => burnishref06_Same.l0 k a b (a.length : Int) (i : Int)) (decide (a.drop i = b.drop i)) := by
  intro d
  induction d with
  | zero =>
    intro i hi
    rw [List.drop_eq_nil_of_le (by omega), List.drop_eq_nil_of_le (by omega)]
    refine Ev.suc (fun k => ?_) (Ev.ret _)
    simp only [burnishref06_Same.l0]
    rw [if_neg (by omega)]
    rfl
  | succ d ih =>
    intro i hi
    have hlt : i < a.length := by omega
    have hlb : i < b.length := by omega
    rw [List.drop_eq_getElem_cons hlt, List.drop_eq_getElem_cons hlb]
    by_cases h : a[i] = b[i]
    · have : decide (a[i] :: a.drop (i + 1) = b[i] :: b.drop (i + 1)) = decide (a.drop (i + 1) = b.drop (i + 1)) := decide_eq_decide.2 (by rw [List.cons.injEq]; simp only [h, true_and])
      rw [this]
      refine Ev.suc (fun k => ?_) (ih (i + 1) (by omega))
      simp only [burnishref06_Same.l0]
      rw [if_pos (by omega), if_pos (by omega), if_pos (by omega), if_pos (by omega), rd_get a i hlt, rd_get b i hlb, if_pos h, w64 i a.length hlt hm]
    · have : decide (a[i] :: a.drop (i + 1) = b[i] :: b.drop (i + 1)) = false := by apply decide_eq_false; rw [List.cons.injEq]; simp only [h, false_and, not_false_eq_true]
      rw [this]
      refine Ev.suc (fun k => ?_) (Ev.ret _)
      simp only [burnishref06_Same.l0]
      rw [if_pos (by omega), if_pos (by omega), if_pos (by omega), if_pos (by omega), rd_get a i hlt, rd_get b i hlb, if_neg h]
theorem same_f (a b : List Int) (hm : a.length < 4611686018427387904) : Ev (fun k => burnishref06_Same.f k a b) (decide (a = b)) := by
  unfold burnishref06_Same.f
  by_cases h : a.length = b.length
  · refine Ev.of (fun k => by rw [if_pos (by omega)]) ?_
    have := same_l0 a b h hm a.length 0 (by omega)
    rw [List.drop_zero, List.drop_zero] at this
    exact this
  · have : decide (a = b) = false := decide_eq_false fun e => h (by rw [e])
    rw [this]
    exact Ev.of (fun k => by rw [if_neg (by omega)]) (Ev.ret _)
theorem sameLists_l0 (a b : List (List Int)) (hab : a.length = b.length) (hm : short a) : ∀ (d i : Nat), i + d = a.length → Ev (fun k => burnishref06_SameLists.l0 k a b (a.length : Int) (i : Int)) (decide (a.drop i = b.drop i)) := by
  intro d
  induction d with
  | zero =>
    intro i hi
    rw [List.drop_eq_nil_of_le (by omega), List.drop_eq_nil_of_le (by omega)]
    refine Ev.suc (fun k => ?_) (Ev.ret _)
    simp only [burnishref06_SameLists.l0]
    rw [if_neg (by omega)]
    rfl
  | succ d ih =>
    intro i hi
    have hlt : i < a.length := by omega
    have hlb : i < b.length := by omega
    rw [List.drop_eq_getElem_cons hlt, List.drop_eq_getElem_cons hlb]
    have hstep : ∀ k, burnishref06_SameLists.l0 (k + 1) a b (a.length : Int) (i : Int) = (burnishref06_Same.f k a[i] b[i]).bind fun t => if t = true then burnishref06_SameLists.l0 k a b (a.length : Int) ((i + 1 : Nat) : Int) else some false := by
      intro k
      simp only [burnishref06_SameLists.l0]
      rw [if_pos (by omega), if_pos (by omega), if_pos (by omega), if_pos (by omega), rd1_get a i hlt, rd1_get b i hlb, w64 i a.length hlt hm.1]
    refine Ev.suc hstep (Ev.bind (same_f a[i] b[i] (hm.2 _ (List.getElem_mem hlt))) ?_)
    by_cases h : a[i] = b[i]
    · have : decide (a[i] :: a.drop (i + 1) = b[i] :: b.drop (i + 1)) = decide (a.drop (i + 1) = b.drop (i + 1)) := decide_eq_decide.2 (by rw [List.cons.injEq]; simp only [h, true_and])
      rw [this]
      refine Ev.of (fun k => by rw [if_pos (by simpa using h)]) (ih (i + 1) (by omega))
    · have : decide (a[i] :: a.drop (i + 1) = b[i] :: b.drop (i + 1)) = false := by apply decide_eq_false; rw [List.cons.injEq]; simp only [h, false_and, not_false_eq_true]
      rw [this]
      exact Ev.of (fun k => by rw [if_neg (by simpa using h)]) (Ev.ret _)
theorem sameLists_f (a b : List (List Int)) (hm : short a) : Ev (fun k => burnishref06_SameLists.f k a b) (decide (a = b)) := by
  unfold burnishref06_SameLists.f
  by_cases h : a.length = b.length
  · refine Ev.of (fun k => by rw [if_pos (by omega)]) ?_
    have := sameLists_l0 a b h hm a.length 0 (by omega)
    rw [List.drop_zero, List.drop_zero] at this
    exact this
  · have : decide (a = b) = false := decide_eq_false fun e => h (by rw [e])
    rw [this]
    exact Ev.of (fun k => by rw [if_neg (by omega)]) (Ev.ret _)
theorem rdB_get (l : List Bool) (i : Nat) (h : i < l.length) : rdOf false l (i : Int) = l[i] := by
  simp [rdOf, h]
theorem sameB_l0 (a b : List Bool) (hab : a.length = b.length) (hm : a.length < 4611686018427387904) : ∀ (d i : Nat), i + d = a.length → Ev (fun k => burnishref06_SameBools.l0 k a b (a.length : Int) (i : Int)) (decide (a.drop i = b.drop i)) := by
  intro d
  induction d with
  | zero =>
    intro i hi
    rw [List.drop_eq_nil_of_le (by omega), List.drop_eq_nil_of_le (by omega)]
    refine Ev.suc (fun k => ?_) (Ev.ret _)
    simp only [burnishref06_SameBools.l0]
    rw [if_neg (by omega)]
    rfl
  | succ d ih =>
    intro i hi
    have hlt : i < a.length := by omega
    have hlb : i < b.length := by omega
    rw [List.drop_eq_getElem_cons hlt, List.drop_eq_getElem_cons hlb]
    by_cases h : a[i] = b[i]
    · have : decide (a[i] :: a.drop (i + 1) = b[i] :: b.drop (i + 1)) = decide (a.drop (i + 1) = b.drop (i + 1)) := decide_eq_decide.2 (by rw [List.cons.injEq]; simp only [h, true_and])
      rw [this]
      refine Ev.suc (fun k => ?_) (ih (i + 1) (by omega))
      simp only [burnishref06_SameBools.l0]
      rw [if_pos (by omega), if_pos (by omega), if_pos (by omega), if_pos (by omega), rdB_get a i hlt, rdB_get b i hlb, if_neg (by simp [h]), w64 i a.length hlt hm]
    · have : decide (a[i] :: a.drop (i + 1) = b[i] :: b.drop (i + 1)) = false := by apply decide_eq_false; rw [List.cons.injEq]; simp only [h, false_and, not_false_eq_true]
      rw [this]
      refine Ev.suc (fun k => ?_) (Ev.ret _)
      simp only [burnishref06_SameBools.l0]
      rw [if_pos (by omega), if_pos (by omega), if_pos (by omega), if_pos (by omega), rdB_get a i hlt, rdB_get b i hlb, if_pos (by simpa using h)]
theorem sameB_f (a b : List Bool) (hm : a.length < 4611686018427387904) : Ev (fun k => burnishref06_SameBools.f k a b) (decide (a = b)) := by
  unfold burnishref06_SameBools.f
  by_cases h : a.length = b.length
  · refine Ev.of (fun k => by rw [if_pos (by omega)]) ?_
    have := sameB_l0 a b h hm a.length 0 (by omega)
    rw [List.drop_zero, List.drop_zero] at this
    exact this
  · have : decide (a = b) = false := decide_eq_false fun e => h (by rw [e])
    rw [this]
    exact Ev.of (fun k => by rw [if_neg (by omega)]) (Ev.ret _)

/-! ### The number of edges. -/
def edges (G : List (List Int)) : Nat := (G.map List.length).sum
theorem edges_l0 (G : List (List Int)) (hl : G.length < 4611686018427387904) (hE : edges G < 4611686018427387904) : ∀ (d i acc : Nat), i + d = G.length → acc + edges (G.drop i) = edges G → Ev (fun k => burnishref06_Edges.l0 k (acc : Int) G (G.length : Int) (i : Int)) ((edges G : Nat) : Int) := by
  intro d
  induction d with
  | zero =>
    intro i acc hi ha
    rw [List.drop_eq_nil_of_le (by omega)] at ha
    have : acc = edges G := by simpa [edges] using ha
    rw [← this]
    refine Ev.suc (fun k => ?_) (Ev.ret _)
    simp only [burnishref06_Edges.l0]
    rw [if_neg (by omega)]
  | succ d ih =>
    intro i acc hi ha
    have hlt : i < G.length := by omega
    rw [List.drop_eq_getElem_cons hlt] at ha
    have h1 : acc + G[i].length + edges (G.drop (i + 1)) = edges G := by rw [← ha]; simp only [edges, List.map_cons, List.sum_cons]; omega
    refine Ev.suc (fun k => ?_) (ih (i + 1) (acc + G[i].length) (by omega) h1)
    simp only [burnishref06_Edges.l0]
    rw [if_pos (by omega), if_pos (by omega), if_pos (by omega), rd1_get G i hlt, w64 i G.length hlt hl]
    have : wrap64 ((acc : Int) + (G[i].length : Int)) = ((acc + G[i].length : Nat) : Int) := by unfold wrap64; omega
    rw [this]
theorem edges_le (M : Nat) : ∀ (G : List (List Int)), (∀ l ∈ G, l.length ≤ M) → edges G ≤ G.length * M
  | [], _ => by simp [edges]
  | a :: G, h => by
    have h1 := edges_le M G (fun l hl => h l (List.mem_cons_of_mem _ hl))
    have h2 := h a List.mem_cons_self
    simp only [edges, List.map_cons, List.sum_cons, List.length_cons] at h1 ⊢
    rw [Nat.succ_mul]
    omega
theorem row_le_edges : ∀ (G : List (List Int)) (l : List Int), l ∈ G → l.length ≤ edges G
  | [], _, h => by cases h
  | a :: G, l, h => by
    simp only [edges, List.map_cons, List.sum_cons]
    rcases List.mem_cons.1 h with rfl | h
    · omega
    · have := row_le_edges G l h
      simp only [edges] at this
      omega
def smallB (G : List (List Int)) : Bool := decide (G.length ≤ 60) && decide (edges G ≤ 300)
theorem small_f (G : List (List Int)) (hs : short G) (hE : G.length ≤ 60 → edges G < 4611686018427387904) : Ev (fun k => burnishlaw06_small.f k G) (smallB G) := by
  unfold burnishlaw06_small.f smallB
  by_cases h : G.length ≤ 60
  · refine Ev.of (h := fun k => (burnishref06_Edges.f k G).bind fun t110 => some (decide (t110 ≤ 300))) (fun k => by rw [if_pos (by omega)]) ?_
    refine Ev.bind (g := fun k => burnishref06_Edges.f k G) (edges_l0 G hs.1 (hE h) G.length 0 0 (by omega) (by simp)) ?_
    have : decide ((edges G : Int) ≤ 300) = (decide (G.length ≤ 60) && decide (edges G ≤ 300)) := by
      rw [decide_eq_true h, Bool.true_and]; apply decide_eq_decide.2; omega
    rw [this]
    exact Ev.ret _
  · refine Ev.of (fun k => by rw [if_neg (by omega)]) ?_
    rw [decide_eq_false h, Bool.false_and]
    exact Ev.ret _
end Go.Proofs.Ytjkclhpibielfaa
