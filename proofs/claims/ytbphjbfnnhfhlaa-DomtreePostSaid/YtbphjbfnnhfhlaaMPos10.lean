import Derived.Laws.CopyOwn
import Derived.Test.YtbphjbfnnhfhlaaRows
import Derived.WalkKit
import Derived.ProofKit
import Derived.OpenShut
import Derived.SizedLaws
import Derived.Deep.Slices
import Derived.Test.YtbphjbfnnhfhlaaMPos9
section
/- digraph.Postorder. -/
set_option linter.unusedVariables false
set_option linter.unusedSimpArgs false
namespace Go.Proofs.Ytbphjbfnnhfhlaa
open Go.RowKit Go.Proofs.YtbphjbfnnhfhlaaW.PrintWords Go.Proofs.Ytbphjbfnnhfhlaa.PDigraphTells Mem

abbrev kG : Kd (List Int) := Kd.slice 3 (Kd.int .i64)
theorem check_any (A : Option Addr) (c : Nat) (G : List (List Int)) (w : World) (hC : Kd.C kG w A G.length G) (hc : G.length ≤ c) (hs : short G) (r : Int) (hr : chk G = r) :
    Calls Try.prog 36 #[.agg #[.slice A G.length c]] w fun e w' => e = .returned (.int .i64 r) ∧ Below w.heap.size w w' := by
  subst hr
  obtain ⟨k, hk⟩ := (chk_f G hs).get
  exact digraph_Check.calls k A c G _ w hC hc hk
theorem has_any1 (A : Option Addr) (c : Nat) (G : List (List Int)) (B : Option Addr) (c2 : Nat) (ns : List Int) (w : World) (hC : Kd.C kG w A G.length G) (hc : G.length ≤ c) (hB : Kd.C (Kd.int .i64) w B ns.length ns) (hc2 : ns.length ≤ c2) (hs : short G) (hn : ns.length < 1000) (b : Bool) (hb : hasG G ns = b) :
    Calls Try.prog 50 #[.agg #[.slice A G.length c], .slice B ns.length c2] w fun e w' => e = .returned (.bool b) ∧ Below w.heap.size w w' := by
  subst hb
  obtain ⟨k, hk⟩ := (has_f G hs ns hn).get
  exact digraph_has.calls k A c G B c2 ns _ w hC hc hB hc2 hk
theorem C_new (w : World) (xs : List Int) (hm : xs.length ≤ 9223372036854775807) (cs : Array Value) (hcs : cs = (xs.map (Value.int .i64)).toArray) : Kd.C (Kd.int .i64) (w.alloc (.cells cs 3)) (some ⟨w.heap.size, 0, none⟩) xs.length xs := by
  subst hcs
  refine Kd.C_of_reads (d := (0 : Int)) ⟨rfl, hm, fun _ => ⟨_, rfl, fun j hj => ?_⟩⟩
  rw [add0]
  refine cell_at (heap_alloc_new w _) ?_
  simp [List.getD_eq_getElem?_getD, hj]

/-- What holds in Postorder ahead of a round: the stack's variable lies at p, the graph's at gb. -/
structure SI (G : List (List Int)) (A : Option Addr) (c : Nat) (w wr : World) (p gb : Nat) (Q : Nat → Prop) (v : Option Addr) (bs : List Bool) (vs : Value) (xs : List (Int × Nat)) (vo : Value) (out : List Int) : Prop where
  ex : ∃ P O : Nat → Prop, (∀ k, P k → (w.heap.size ≤ k ∧ k < wr.heap.size) ∧ k ≠ p ∧ k ≠ gb ∧ ¬ Q k ∧ ¬ O k) ∧ (∀ k, O k → (w.heap.size ≤ k ∧ k < wr.heap.size) ∧ k ≠ p ∧ k ≠ gb ∧ ¬ Q k) ∧ Kd.R kF 67 wr 0 P vs xs ∧ Kd.R (Kd.int .i64) 3 wr 0 O vo out
  q : ∀ k, Q k → (w.heap.size ≤ k ∧ k < wr.heap.size) ∧ k ≠ p ∧ k ≠ gb
  set_ : PS wr Q v (some bs)
  cell : wr.heap[p]? = some (.cells #[vs] 68 (0, 0))
  gcell : wr.heap[gb]? = some (.cells #[.slice A G.length c] 24 (0, 0))
  wp : w.heap.size ≤ p ∧ w.heap.size ≤ gb ∧ p ≠ gb
  below : Below w.heap.size w wr
  len : bs.length = G.length
section
variable {G : List (List Int)} {A : Option Addr} {c : Nat} {w wr W : World} {p gb : Nat} {Q : Nat → Prop} {v : Option Addr} {bs : List Bool} {vs vo : Value} {xs : List (Int × Nat)} {out : List Int}
theorem SI.step (h : SI G A c w wr p gb Q v bs vs xs vo out) (hb : Below wr.heap.size wr W) : SI G A c w W p gb Q v bs vs xs vo out := by
  obtain ⟨P, O, hP, hO, hR, hR2⟩ := h.ex
  have hs := hb.size
  exact ⟨⟨P, O, fun k hk => ⟨⟨(hP k hk).1.1, by have := (hP k hk).1.2; omega⟩, (hP k hk).2⟩, fun k hk => ⟨⟨(hO k hk).1.1, by have := (hO k hk).1.2; omega⟩, (hO k hk).2⟩, Kd.R_step hR (fun k _ hk => hb.block k hk), Kd.R_step hR2 (fun k _ hk => hb.block k hk)⟩,
    fun k hk => ⟨⟨(h.q k hk).1.1, by have := (h.q k hk).1.2; omega⟩, (h.q k hk).2⟩, h.set_.step (fun k _ hk => hb.block k hk), (hb.block p (blk_lt' h.cell)).trans h.cell, (hb.block gb (blk_lt' h.gcell)).trans h.gcell, h.wp, h.below.trans (hb.mono h.below.size), h.len⟩
theorem SI.top {g cc : Nat} (h : SI G A c w wr p gb Q v bs (.slice (some ⟨g, 0, none⟩) xs.length cc) xs vo out) (i : Nat) (hi : i < xs.length) :
    wr.cell? ⟨g, i * 2, none⟩ = some (.int .i64 (xs[i]).1) ∧ wr.cell? ⟨g, i * 2 + 1, none⟩ = some (.int .i64 ((xs[i]).2 : Int)) ∧ wr.frozen? ⟨g, i * 2, none⟩ = false ∧ wr.frozen? ⟨g, i * 2 + 1, none⟩ = false := by
  obtain ⟨P, O, hP, hO, hR, hR2⟩ := h.ex
  exact R_atF hR i hi
theorem SI.next {g cc : Nat} (h : SI G A c w wr p gb Q v bs (.slice (some ⟨g, 0, none⟩) xs.length cc) xs vo out) (i : Nat) (hi : i < xs.length) (t : Nat) :
    SI G A c w (wr.setCell ⟨g, i * 2 + 1, none⟩ (.int .i64 (t : Int))) p gb Q v bs (.slice (some ⟨g, 0, none⟩) xs.length cc) (xs.set i (xs[i].1, t)) vo out := by
  obtain ⟨P, O, hP, hO, hR, hR2⟩ := h.ex
  obtain ⟨h1, h2⟩ := R_nextF hR i hi t
  have hs := h2.size
  exact ⟨⟨P, O, fun k hk => ⟨⟨(hP k hk).1.1, by have := (hP k hk).1.2; omega⟩, (hP k hk).2⟩, fun k hk => ⟨⟨(hO k hk).1.1, by have := (hO k hk).1.2; omega⟩, (hO k hk).2⟩, h1, Kd.R_step hR2 (fun k hk hlt => h2.block hlt (fun h3 => (hP k h3).2.2.2.2 hk))⟩,
    fun k hk => ⟨⟨(h.q k hk).1.1, by have := (h.q k hk).1.2; omega⟩, (h.q k hk).2⟩, h.set_.step (fun k hk hlt => h2.block hlt (fun h3 => (hP k h3).2.2.2.1 hk)), h2.blk h.cell (fun h3 => (hP p h3).2.1 rfl), h2.blk h.gcell (fun h3 => (hP gb h3).2.2.1 rfl), h.wp, h.below.trans (h2.belowB (fun k hk => (hP k hk).1.1) h.below.size), h.len⟩
theorem SI.add {bs' : List Bool} (h : SI G A c w wr p gb Q v bs vs xs vo out) (hp : PS W Q v (some bs')) (hk : Kp Q wr W) (hl : bs'.length = bs.length) : SI G A c w W p gb Q v bs' vs xs vo out := by
  obtain ⟨P, O, hP, hO, hR, hR2⟩ := h.ex
  have hs := hk.size
  exact ⟨⟨P, O, fun k hk => ⟨⟨(hP k hk).1.1, by have := (hP k hk).1.2; omega⟩, (hP k hk).2⟩, fun k hk => ⟨⟨(hO k hk).1.1, by have := (hO k hk).1.2; omega⟩, (hO k hk).2⟩, Kd.R_step hR (fun k h1 hlt => hk.block hlt (hP k h1).2.2.2.1), Kd.R_step hR2 (fun k h1 hlt => hk.block hlt (hO k h1).2.2.2)⟩,
    fun k hk => ⟨⟨(h.q k hk).1.1, by have := (h.q k hk).1.2; omega⟩, (h.q k hk).2⟩, hp, hk.blk h.cell (fun h3 => (h.q p h3).2.1 rfl), hk.blk h.gcell (fun h3 => (h.q gb h3).2.2 rfl), h.wp, h.below.trans (hk.belowB (fun k hk => (h.q k hk).1.1) h.below.size), by rw [hl]; exact h.len⟩
theorem SI.push {P : Nat → Prop} {O : Nat → Prop} {vs' : Value} {xs' : List (Int × Nat)} (h : SI G A c w wr p gb Q v bs vs xs vo out) (hP : ∀ k, P k → (w.heap.size ≤ k ∧ k < wr.heap.size) ∧ k ≠ p ∧ k ≠ gb ∧ ¬ Q k ∧ ¬ O k) (hO : ∀ k, O k → (w.heap.size ≤ k ∧ k < wr.heap.size) ∧ k ≠ p ∧ k ≠ gb ∧ ¬ Q k) (hR2 : Kd.R (Kd.int .i64) 3 wr 0 O vo out)
    (hc : W.heap[p]? = some (.cells #[vs'] 68 (0, 0))) (hR : Kd.R kF 67 W 0 (fun k => (P k ∨ wr.heap.size ≤ k) ∧ k ≠ p) vs' xs') (hk : Kp (fun k => P k ∨ k = p) wr W) : SI G A c w W p gb Q v bs vs' xs' vo out := by
  have hs := hk.size
  have h0 := h.below.size
  have hgl := blk_lt' h.gcell
  refine ⟨⟨fun k => ((P k ∨ wr.heap.size ≤ k) ∧ k ≠ p) ∧ k < W.heap.size, O, fun k hk => ⟨⟨?_, hk.2⟩, hk.1.2, ?_, ?_, ?_⟩, fun k hk => ⟨⟨(hO k hk).1.1, by have := (hO k hk).1.2; omega⟩, (hO k hk).2⟩, Kd.R_mono (Kd.R_bound hR) (fun k hk => ⟨hk.1, hk.2.2.1⟩), Kd.R_step hR2 (fun k h1 hlt => hk.block hlt (fun h2 => ?_))⟩,
    fun k hk => ⟨⟨(h.q k hk).1.1, by have := (h.q k hk).1.2; omega⟩, (h.q k hk).2⟩, h.set_.step (fun k h1 hlt => hk.block hlt (fun h2 => ?_)), hc, hk.blk h.gcell (fun h2 => ?_), h.wp, h.below.trans (hk.belowB (fun k hk => ?_) h.below.size), h.len⟩
  · rcases hk.1.1 with h1 | h1
    · exact (hP k h1).1.1
    · omega
  · rcases hk.1.1 with h1 | h1
    · exact (hP k h1).2.2.1
    · omega
  · rcases hk.1.1 with h1 | h1
    · exact (hP k h1).2.2.2.1
    · intro h2; have := (h.q k h2).1.2; omega
  · rcases hk.1.1 with h1 | h1
    · exact (hP k h1).2.2.2.2
    · intro h2; have := (hO k h2).1.2; omega
  · rcases h2 with h2 | h2
    · exact (hP k h2).2.2.2.2 h1
    · exact (hO k h1).2.1 h2
  · rcases h2 with h2 | h2
    · exact (hP k h2).2.2.2.1 h1
    · exact (h.q k h1).2.1 h2
  · rcases h2 with h2 | h2
    · exact (hP gb h2).2.2.1 rfl
    · exact h.wp.2.2 h2.symm
  · rcases hk with h1 | h1
    · exact (hP k h1).1.1
    · rw [h1]; exact h.wp.1
theorem SI.pop {g cc n : Nat} (h : SI G A c w wr p gb Q v bs (.slice (some ⟨g, 0, none⟩) xs.length cc) xs vo out) (hn : n ≤ xs.length) :
    SI G A c w (wr.setCell ⟨p, 0, none⟩ (.slice (some ⟨g, 0, none⟩) n cc)) p gb Q v bs (.slice (some ⟨g, 0, none⟩) n cc) (xs.take n) vo out := by
  obtain ⟨P, O, hP, hO, hR, hR2⟩ := h.ex
  have hk : Kp (fun k => k = p) wr (wr.setCell ⟨p, 0, none⟩ (.slice (some ⟨g, 0, none⟩) n cc)) := (Kp.refl (fun k => k = p) wr).setCell (p := ⟨p, 0, none⟩) (.inl rfl) _
  have hs := hk.size
  refine ⟨⟨P, O, fun k hk => ⟨⟨(hP k hk).1.1, by have := (hP k hk).1.2; omega⟩, (hP k hk).2⟩, fun k hk => ⟨⟨(hO k hk).1.1, by have := (hO k hk).1.2; omega⟩, (hO k hk).2⟩, Kd.R_step (Kd.R_take hR hn) (fun k h1 hlt => hk.block hlt (hP k h1).2.1), Kd.R_step hR2 (fun k h1 hlt => hk.block hlt (hO k h1).2.1)⟩,
    fun k hk => ⟨⟨(h.q k hk).1.1, by have := (h.q k hk).1.2; omega⟩, (h.q k hk).2⟩, h.set_.step (fun k h1 hlt => hk.block hlt (h.q k h1).2.1), ?_, hk.blk h.gcell (fun h2 => h.wp.2.2 h2.symm), h.wp, h.below.trans (hk.belowB (fun k hk => by rw [hk]; exact h.wp.1) h.below.size), h.len⟩
  have := set_at (j := 0) h.cell (.slice (some ⟨g, 0, none⟩) n cc)
  simpa using this
end

theorem own_oneF (W : World) (x : Int × Nat) : Kd.R kF 67 (W.alloc (.cells #[.int .i64 x.1, .int .i64 (x.2 : Int)] 67)) 0 (fun k => k = W.heap.size) (.slice (some ⟨W.heap.size, 0, none⟩) 1 1) [x] := by
  refine ⟨fun k hk => ?_, [.int .i64 x.1, .int .i64 (x.2 : Int)], ?_, ⟨rfl, fun j p hj => ?_⟩⟩
  · have : W.heap.size = k := by simpa [Value.ownBlock] using hk
    exact this.symm
  · have h := World.ownsRow_lit (base := 0) (e := 67) (size := 2) W #[.int .i64 x.1, .int .i64 (x.2 : Int)] 1 (Nat.zero_le _) (by unfold maxLen; omega) (by simp)
    exact h
  · rcases j with _ | j
    · simp at hj
      subst hj
      exact kF_mkM _ _ _ x
    · simp at hj
theorem getLast_app {α : Type} (l : List α) (x : α) (h : l.length < (l ++ [x]).length) : (l ++ [x])[l.length]'h = x := by simp
theorem set_last {α : Type} (l : List α) (x y : α) : (l ++ [x]).set l.length y = l ++ [y] := by simp
theorem take_last {α : Type} (l : List α) (x : α) : (l ++ [x]).take l.length = l := by simp
theorem SI.top2 {G : List (List Int)} {A : Option Addr} {c : Nat} {w wr : World} {p gb : Nat} {Q : Nat → Prop} {v : Option Addr} {bs : List Bool} {vo : Value} {ys : List (Int × Nat)} {x : Int × Nat} {out : List Int} {g cc L : Nat} (h : SI G A c w wr p gb Q v bs (.slice (some ⟨g, 0, none⟩) (L + 1) cc) (ys ++ [x]) vo out) (hL : ys.length = L) :
    wr.cell? ⟨g, L * 2, none⟩ = some (.int .i64 x.1) ∧ wr.cell? ⟨g, L * 2 + 1, none⟩ = some (.int .i64 (x.2 : Int)) ∧ wr.frozen? ⟨g, L * 2, none⟩ = false ∧ wr.frozen? ⟨g, L * 2 + 1, none⟩ = false := by
  subst hL
  have hl : (ys ++ [x]).length = ys.length + 1 := by simp
  rw [← hl] at h
  have := h.top ys.length (by omega)
  rw [getLast_app] at this
  exact this
theorem SI.next2 {G : List (List Int)} {A : Option Addr} {c : Nat} {w wr : World} {p gb : Nat} {Q : Nat → Prop} {v : Option Addr} {bs : List Bool} {vo : Value} {ys : List (Int × Nat)} {n : Int} {i : Nat} {out : List Int} {g cc L : Nat} (h : SI G A c w wr p gb Q v bs (.slice (some ⟨g, 0, none⟩) (L + 1) cc) (ys ++ [(n, i)]) vo out) (hL : ys.length = L) (t : Nat) :
    SI G A c w (wr.setCell ⟨g, L * 2 + 1, none⟩ (.int .i64 (t : Int))) p gb Q v bs (.slice (some ⟨g, 0, none⟩) (L + 1) cc) (ys ++ [(n, t)]) vo out := by
  subst hL
  have hl : (ys ++ [(n, i)]).length = ys.length + 1 := by simp
  rw [← hl] at h
  have := h.next ys.length (by omega) t
  rw [getLast_app, set_last, hl] at this
  exact this
theorem SI.pop2 {G : List (List Int)} {A : Option Addr} {c : Nat} {w wr : World} {p gb : Nat} {Q : Nat → Prop} {v : Option Addr} {bs : List Bool} {vo : Value} {ys : List (Int × Nat)} {x : Int × Nat} {out : List Int} {g cc L : Nat} (h : SI G A c w wr p gb Q v bs (.slice (some ⟨g, 0, none⟩) (L + 1) cc) (ys ++ [x]) vo out) (hL : ys.length = L) :
    SI G A c w (wr.setCell ⟨p, 0, none⟩ (.slice (some ⟨g, 0, none⟩) L cc)) p gb Q v bs (.slice (some ⟨g, 0, none⟩) L cc) ys vo out := by
  subst hL
  have hl : (ys ++ [x]).length = ys.length + 1 := by simp
  rw [← hl] at h
  have := h.pop (n := ys.length) (by omega)
  rw [take_last] at this
  exact this
theorem SI.form {G : List (List Int)} {A : Option Addr} {c : Nat} {w wr : World} {p gb : Nat} {Q : Nat → Prop} {v : Option Addr} {bs : List Bool} {vs vo : Value} {xs : List (Int × Nat)} {out : List Int} (h : SI G A c w wr p gb Q v bs vs xs vo out) (hp : 0 < xs.length) : ∃ g cc, vs = .slice (some ⟨g, 0, none⟩) xs.length cc ∧ xs.length ≤ cc := by
  obtain ⟨P, O, hP, hO, hR, hR2⟩ := h.ex
  obtain ⟨g, cc, e, _⟩ := Kd.R_form hR hp
  obtain ⟨A1, c1, e1, hle, _⟩ := Kd.R_reads hR
  rw [e] at e1
  injection e1 with _ _ e2
  exact ⟨g, cc, e, by omega⟩
theorem setO_in (bs : List Bool) (s : Int) (h0 : 0 ≤ s) : setO (some bs) s true = some (bs.set s.toNat true) := by simp [setO, h0]
theorem addB_in (bs : List Bool) (s : Int) (h0 : 0 ≤ s) (h : s < bs.length) : addB (some bs) s = !metOf bs s := by
  unfold addB inO hasO metOf
  simp [h0, h]
theorem set_met {bs : List Bool} {s : Int} (h : metOf bs s = true) : bs.set s.toNat true = bs := set_same bs s.toNat true (.inr (by unfold metOf at h; simp at h; simpa using h.2))
theorem SI.enter {G : List (List Int)} {A : Option Addr} {c : Nat} {w wr : World} {p gb : Nat} {Q : Nat → Prop} {v : Option Addr} {bs : List Bool} {vo : Value} {xs : List (Int × Nat)} {out : List Int} {Av : Option Addr} {N cc : Nat} (h : SI G A c w wr p gb Q v bs (.slice Av N cc) xs vo out) (hN : xs.length = N) (hm : N ≤ 1000000) (s : Int) :
    Calls Try.prog 52 #[.int .i64 s, .pointer (some ⟨p, 0, none⟩)] wr fun e w' => e = .returned (.tuple #[]) ∧ ∃ A' c', SI G A c w w' p gb Q v bs (.slice A' (N + 1) c') (xs ++ [(s, 0)]) vo out := by
  subst hN
  obtain ⟨P, O, hP, hO, hR, hR2⟩ := h.ex
  refine (enter_any s p Av cc xs P wr h.cell hR (fun h3 => (hP p h3).2.1 rfl) hm).mono ?_
  rintro e w' ⟨rfl, A', c', h1, h2, h3⟩
  have hl : (xs ++ [(s, 0)]).length = xs.length + 1 := by simp
  rw [hl] at h1 h2
  exact ⟨rfl, A', c', h.push hP hO hR2 h1 h2 h3⟩
theorem SI.app {G : List (List Int)} {A : Option Addr} {c : Nat} {w W wa : World} {p gb : Nat} {Q P O : Nat → Prop} {v : Option Addr} {bs : List Bool} {vs vo v1 : Value} {xs : List (Int × Nat)} {out out' : List Int} (h : SI G A c w W p gb Q v bs vs xs vo out)
    (hP : ∀ k, P k → (w.heap.size ≤ k ∧ k < W.heap.size) ∧ k ≠ p ∧ k ≠ gb ∧ ¬ Q k ∧ ¬ O k) (hO : ∀ k, O k → (w.heap.size ≤ k ∧ k < W.heap.size) ∧ k ≠ p ∧ k ≠ gb ∧ ¬ Q k) (hR : Kd.R kF 67 W 0 P vs xs) (hR2 : Kd.R (Kd.int .i64) 3 W 0 O vo out)
    (hRA : Kd.R (Kd.int .i64) 3 wa 0 (fun k => O k ∨ W.heap.size ≤ k) v1 out') (hg : W.grownBy wa vo.ownBlock) : SI G A c w wa p gb Q v bs vs xs v1 out' := by
  have hk : Kp O W wa := (Kp.refl O W).grown hg (fun k hk => .inl (hR2.1 k hk))
  have hs := hk.size
  have h0 := h.below.size
  have hpl := blk_lt' h.cell
  have hgl := blk_lt' h.gcell
  refine ⟨⟨P, fun k => (O k ∨ W.heap.size ≤ k) ∧ k < wa.heap.size, fun k hk1 => ⟨⟨(hP k hk1).1.1, by have := (hP k hk1).1.2; omega⟩, (hP k hk1).2.1, (hP k hk1).2.2.1, (hP k hk1).2.2.2.1, fun h2 => ?_⟩, fun k hk1 => ?_, Kd.R_step hR (fun k h1 hlt => hk.block hlt (hP k h1).2.2.2.2), Kd.R_mono (Kd.R_bound hRA) (fun k hk => ⟨hk.1, hk.2.2.1⟩)⟩,
    fun k hk1 => ⟨⟨(h.q k hk1).1.1, by have := (h.q k hk1).1.2; omega⟩, (h.q k hk1).2⟩, h.set_.step (fun k h1 hlt => hk.block hlt (fun h2 => (hO k h2).2.2.2 h1)), hk.blk h.cell (fun h2 => (hO p h2).2.1 rfl), hk.blk h.gcell (fun h2 => (hO gb h2).2.2.1 rfl), h.wp, h.below.trans (hk.belowB (fun k hk => (hO k hk).1.1) h0), h.len⟩
  · rcases h2.1 with h3 | h3
    · exact (hP k hk1).2.2.2.2 h3
    · have := (hP k hk1).1.2; omega
  · rcases hk1.1 with h3 | h3
    · exact ⟨⟨(hO k h3).1.1, hk1.2⟩, (hO k h3).2⟩
    · exact ⟨⟨by omega, hk1.2⟩, by omega, by omega, fun h4 => by have := (h.q k h4).1.2; omega⟩
theorem ofO_one (G : List (List Int)) (a : Int) (hl : G.length ≤ 65536) (ha : isNode G a) : ∃ bs, ofO (G.length : Int) [a] = some bs ∧ bs.length = G.length ∧ metOf bs = Grf.mark (fun _ => false) a := by
  unfold isNode at ha
  refine ⟨(List.replicate G.length false).set a.toNat true, ?_, by simp, ?_⟩
  · unfold ofO addAll newO
    rw [if_neg (by omega)]
    simp [setO, ha.1]
  · rw [metOf_set _ a ha.1 (by simp; omega), metOf_false]
theorem iter_not {ad : Int → List Int} {st : Grf.St} {mf : Grf.Met} {of_ : List Int} {n : Nat} (h : Grf.iter ad n st = ([], mf, of_)) (hne : st.1 ≠ []) : ∃ m, n = m + 1 ∧ Grf.iter ad m (Grf.step ad st) = ([], mf, of_) := by
  cases n with
  | zero =>
    have : st = ([], mf, of_) := h
    rw [this] at hne
    exact absurd rfl hne
  | succ m => exact ⟨m, rfl, h⟩

set_option maxRecDepth 100000 in
set_option maxHeartbeats 2000000 in
theorem post_main (A : Option Addr) (c : Nat) (G : List (List Int)) (a : Int) (w : World) (hC : Kd.C kG w A G.length G) (hc : G.length ≤ c) (hs : short G) (hok : chk G = 0 ∧ isNode G a) :
    Calls Try.prog 45 #[.agg #[.slice A G.length c], .int .i64 a] w fun e w' => ∃ vo, e = .returned vo ∧ Kd.R (Kd.int .i64) 3 w' 0 (fun k => w.heap.size ≤ k) vo (post G a) ∧ Below w.heap.size w w' := by
  have hhas : hasG G [a] = true := (hasG_iff G [a]).2 ⟨by simpa using hok.2, hok.1⟩
  have hX := Aside0.mk (And.intro hC (And.intro hc (And.intro hs (And.intro hok hhas))))
  have hl := okG.len hok.1
  clear hC hc hs hok hhas
  go_enter Try.func45, Try.ntmps45
  go_wp2; go_step3
  go_wp2_with fail
  refine (has_any1 A c G (some ⟨w.heap.size + 1, 0, none⟩) 1 [a] _ (Kd.C_alloc (Kd.C_alloc hX.out.1 _) _) hX.out.2.1 ?_ (by simp) hX.out.2.2.1 (by simp) true hX.out.2.2.2.2).mono ?_
  · have := C_new (w.alloc (.cells #[.slice A G.length c] 24)) [a] (by simp) _ rfl
    simpa using this
  rintro e w1 ⟨rfl, B1⟩
  obtain ⟨gb, hgb⟩ : ∃ gb, gb = w.heap.size := ⟨_, rfl⟩
  have hbb : Below w.heap.size w w1 := (below_alloc (below_alloc (Below.refl _ w) _) _).trans (B1.mono (by simp; omega))
  have hg1 : w1.heap[gb]? = some (.cells #[.slice A G.length c] 24 (0, 0)) := by
    rw [hgb]
    refine (B1.block _ (by simp; omega)).trans ?_
    rw [Below.heap_alloc _ _ _ (by simp)]
    exact heap_alloc_new w _
  have c0 : w1.cell? ⟨gb, 0, none⟩ = some (.slice A G.length c) := cell_at hg1 rfl
  have H1 := Aside0.mk (And.intro hbb (And.intro hg1 (show w.heap.size ≤ gb by omega)))
  rw [show Value.pointer (some (⟨w.heap.size, 0, none⟩ : Addr)) = Value.pointer (some ⟨gb, 0, none⟩) by rw [hgb]]
  have hS0 := Aside0.mk hgb
  clear B1 hbb hg1 hgb
  go_wp2_with fail
  refine (of_any (G.length : Int) (some ⟨w1.heap.size, 0, none⟩) 1 [a] _ ?_ (by simp)).mono ?_
  · exact C_new w1 [a] (by simp) _ rfl
  rintro e w2 ⟨v, rfl, hPS, hK2⟩
  go_wp2_with fail
  obtain ⟨bs, hbs, hbl, hbm⟩ := ofO_one G a hl hX.out.2.2.2.1.2
  rw [hbs] at hPS
  obtain ⟨q0, hq0⟩ := Grf.machine (okG.cl hX.out.2.2.2.1.1) G.length a (fun _ => false) [] [] ((mem_nodes G a).2 hX.out.2.2.2.1.2) rfl (by rw [cnt_all]; exact Nat.le_refl _)
  obtain ⟨mf, hmf⟩ : ∃ mf, (Grf.visit (adj G) G.length a (fun _ => false) []).1 = mf := ⟨_, rfl⟩
  have hpost : (Grf.visit (adj G) G.length a (fun _ => false) []).2 = post G a := by unfold post; rw [if_pos hX.out.2.2.2.1]
  rw [hmf, hpost, ← hbm] at hq0
  obtain ⟨p, hp⟩ : ∃ p, p = w2.heap.size + 1 := ⟨_, rfl⟩
  have s2 := hK2.size
  have hB0 := H1.out.1.size
  have hg0 := H1.out.2.2
  have hgl := blk_lt' H1.out.2.1
  have hSI : SI G A c w ((w2.alloc (.cells #[.int .i64 a, .int .i64 0] 67)).alloc (.cells #[.slice (some ⟨w2.heap.size, 0, none⟩) 1 1] 68)) p gb (fun k => w1.heap.size + 1 ≤ k ∧ k < w2.heap.size) v bs (.slice (some ⟨w2.heap.size, 0, none⟩) 1 1) [(a, 0)] (.slice none 0 0) [] := by
    have hs1 : (w1.alloc (.cells #[.int .i64 a] 3)).heap.size = w1.heap.size + 1 := by simp
    rw [hs1] at s2 hPS
    have hKB : Below w1.heap.size w1 w2 := (below_alloc (Below.refl _ _) _).trans (hK2.none_below.mono (by simp))
    refine ⟨⟨fun k => k = w2.heap.size, fun _ => False, fun k hk => ⟨⟨by omega, by simp; omega⟩, by omega, by omega, by omega, fun h => h⟩, fun k hk => hk.elim, Kd.R_alloc (own_oneF w2 (a, 0)) _, Kd.R_nil _ _ _ _ _⟩, fun k hk => ⟨⟨by omega, by simp; omega⟩, by omega, by omega⟩,
      (hPS.bound.mono (fun k hk => hk)).alloc _ |>.alloc _, ?_, ?_, ⟨by omega, by omega, by omega⟩, below_alloc (below_alloc (H1.out.1.trans (hKB.mono hB0)) _) _, hbl⟩
    · rw [hp]
      have := heap_alloc_new (w2.alloc (.cells #[.int .i64 a, .int .i64 0] 67)) (.cells #[.slice (some ⟨w2.heap.size, 0, none⟩) 1 1] 68)
      simpa using this
    · rw [Below.heap_alloc _ _ _ (by simp; omega), Below.heap_alloc _ _ _ (by omega)]
      exact (hKB.block gb hgl).trans H1.out.2.1
  obtain ⟨Q, hQ⟩ : ∃ Q : Nat → Prop, Q = fun k => w1.heap.size + 1 ≤ k ∧ k < w2.heap.size := ⟨_, rfl⟩
  rw [← hQ] at hSI
  have hall : ∀ x ∈ [((a, 0) : Int × Nat)], isNode G x.1 := by simpa using hX.out.2.2.2.1.2
  have hI0 : Aside0 (SI G A c w ((w2.alloc (.cells #[.int .i64 a, .int .i64 0] 67)).alloc (.cells #[.slice (some ⟨w2.heap.size, 0, none⟩) 1 1] 68)) p gb Q v bs (.slice (some ⟨w2.heap.size, 0, none⟩) ([((a, 0) : Int × Nat)].reverse).length 1) ([((a, 0) : Int × Nat)].reverse) (.slice none 0 0) [] ∧ Grf.iter (adj G) (q0 + 1) ([((a, 0) : Int × Nat)], metOf bs, []) = ([], mf, post G a) ∧ (∀ x ∈ [((a, 0) : Int × Nat)], isNode G x.1) ∧ [((a, 0) : Int × Nat)].length + ([] : List Int).length + Grf.cnt (nodes G) (metOf bs) ≤ G.length) := ⟨hSI, hq0, hall, by have := Grf.cnt_mark (m := fun _ => false) ((mem_nodes G a).2 hX.out.2.2.2.1.2) rfl; rw [cnt_all] at this; rw [hbm]; simp; omega⟩
  rw [show Value.pointer (some (⟨w2.heap.size + 1, 0, none⟩ : Addr)) = Value.pointer (some ⟨p, 0, none⟩) by rw [hp]]
  clear hSI hq0 hall hPS hK2 H1 hS0 hbs hbl hbm hmf hpost hp s2 hB0 hg0 hgl hQ c0
  go_wp2; go_step3
  go_wp2
  go_loopg [5] (q0 + 1) (fun n vo wi => ∃ (S : List (Int × Nat)) (out : List Int) (bs : List Bool) (As : Option Addr) (cs : Nat) (Ao : Option Addr) (co : Nat), vo = .slice Ao out.length co ∧ Aside0 (SI G A c w wi p gb Q v bs (.slice As S.length cs) S.reverse (.slice Ao out.length co) out ∧ Grf.iter (adj G) n (S, metOf bs, out) = ([], mf, post G a) ∧ (∀ x ∈ S, isNode G x.1) ∧ S.length + out.length + Grf.cnt (nodes G) (metOf bs) ≤ G.length))
  case atStart => exact ⟨[(a, 0)], [], bs, some ⟨w2.heap.size, 0, none⟩, 1, none, 0, rfl, hI0⟩
  case round =>
    obtain ⟨S, out, bs', As, cs, Ao, co, rfl, hJ⟩ := hrel
    clear hI0
    have c7 := cell_at (j := 0) hJ.out.1.cell rfl
    cases S with
    | nil =>
      have hfin := hJ.out.2.1
      rw [Grf.iter_nil] at hfin
      injection hfin with _ hfin
      injection hfin with _ hfin
      have hE := Aside0.mk hfin
      clear hfin
      go_wp2
      go_ret
      obtain ⟨P, O, hP, hO, hR, hR2⟩ := hJ.out.1.ex
      have h1 : out = post G a := hE.out
      rw [← h1]
      exact ⟨_, rfl, Kd.R_mono hR2 (fun k hk => (hO k hk).1.1), hJ.out.1.below⟩
    | cons top S' =>
      obtain ⟨n, i0⟩ := top
      obtain ⟨m, rfl, hit⟩ := iter_not hJ.out.2.1 (by simp)
      have hnn : isNode G n := hJ.out.2.2.1 (n, i0) List.mem_cons_self
      have hSn : ∀ x ∈ S', isNode G x.1 := fun x hx => hJ.out.2.2.1 x (List.mem_cons_of_mem _ hx)
      obtain ⟨g, cc, ev, hcc⟩ := hJ.out.1.form (by simp)
      injection ev with ev1 ev2 ev3
      subst ev1
      subst ev3
      obtain ⟨ys, hys⟩ : ∃ ys, S'.reverse = ys := ⟨_, rfl⟩
      have hSr : ((n, i0) :: S').reverse = ys ++ [(n, i0)] := by rw [List.reverse_cons, hys]
      have hSl : ((n, i0) :: S').length = S'.length + 1 := rfl
      have hcnt := hJ.out.2.2.2
      have hyl : ys.length = S'.length := by rw [← hys, List.length_reverse]
      rw [hSr, List.length_append, List.length_singleton, hyl] at hcc
      obtain ⟨L, hL⟩ : ∃ L, S'.length = L := ⟨_, rfl⟩
      have hJ1 := hJ.out.1
      rw [hSr, hSl, hL] at hJ1
      rw [hSl, hL] at c7 hcnt
      rw [hL] at hyl hcc
      obtain ⟨st1, hst⟩ : ∃ st1, Grf.step (adj G) ((n, i0) :: S', metOf bs', out) = st1 := ⟨_, rfl⟩
      rw [hst] at hit
      have hY := Aside0.mk (And.intro hit (And.intro hnn (And.intro hSn (And.intro hys (And.intro hyl hL)))))
      have hI1 : Aside0 (SI G A c w wr p gb Q v bs' (.slice (some ⟨g, 0, none⟩) (L + 1) cs) (ys ++ [(n, i0)]) (.slice Ao out.length co) out ∧ Grf.step (adj G) ((n, i0) :: S', metOf bs', out) = st1) := ⟨hJ1, hst⟩
      clear hit hnn hSn hys hyl hL hJ hJ1 hst hSr hSl
      have hcnt' := Aside0.mk hcnt
      have hLb : L + 1 ≤ 65536 := by omega
      have hob : out.length ≤ 65536 := by omega
      clear hcnt
      have hw1 : wrap64 (L : Int) = (L : Int) := by unfold wrap64; omega
      go_wp2_with fail
      have hn2 := hY.out.2.1
      unfold isNode at hn2
      have hn2a := hn2.1
      have hn2b := hn2.2
      clear c7 hn2
      obtain ⟨row, hrow⟩ : ∃ row, rd_L1 G n = row := ⟨_, rfl⟩
      have hrl : row.length < 4611686018427387904 := by rw [← hrow]; exact hX.out.2.2.1.2 _ (adj_mem hY.out.2.1)
      have hrow' := Aside0.mk hrow
      clear hrow
      go_loopg [] row.length (fun q wi => ∃ i : Nat, row.length ≤ i + q ∧ Aside0 (SI G A c w wi p gb Q v bs' (.slice (some ⟨g, 0, none⟩) (L + 1) cs) (ys ++ [(n, i)]) (.slice Ao out.length co) out ∧ Grf.step (adj G) ((n, i) :: S', metOf bs', out) = st1))
      case atStart => exact ⟨i0, by omega, hI1⟩
      case round =>
        obtain ⟨i, hi, hJ⟩ := hrel
        clear hI1
        obtain ⟨t0, t1, t2, t3⟩ := hJ.out.1.top2 hY.out.2.2.2.2.1
        have cg := cell_at (j := 0) hJ.out.1.gcell rfl
        obtain ⟨ad, A1, c1, eA, r0, rl, rC⟩ := at_L1 (Kd.C_below hX.out.1 hJ.out.1.below) n hn2a hn2b
        rw [hrow'.out] at r0 rl rC
        subst eA
        have hR := Aside0.mk (And.intro rC rl)
        clear rC rl
        by_cases hlt : i < row.length
        · have hlti : (i : Int) < row.length := by omega
          obtain ⟨gk1, rfl⟩ : ∃ q, gk = q + 1 := ⟨gk - 1, by omega⟩
          have hi2 : row.length ≤ i + 1 + gk1 := by omega
          have hm2 : gk1 < gk1 + 1 := by omega
          have hm3 : m < m + 1 := by omega
          obtain ⟨bd, eB, b0⟩ := Kd.at_int hR.out.1 (i : Int) (by omega) hlti
          rw [rd_get row i hlt, Int.toNat_natCast] at b0
          subst eB
          obtain ⟨s, hs⟩ : ∃ s, s = row[i] := ⟨_, rfl⟩
          rw [← hs] at b0
          have hs' := Aside0.mk hs
          clear hs
          have hw2 : wrap64 ((i : Int) + 1) = ((i + 1 : Nat) : Int) := w64 i row.length hlt hrl
          go_wp2_with fail
          refine still_tail 13 (by kernel_rfl) (by kernel_rfl) ?_
          simp only [List.take_succ_cons, List.take_zero, List.drop_succ_cons, List.drop_zero]
          repeat still_step
          refine wpStill_nil ?_
          go_wp2_with fail
          refine still_tail 14 (by kernel_rfl) (by kernel_rfl) ?_
          simp only [List.take_succ_cons, List.take_zero, List.drop_succ_cons, List.drop_zero]
          repeat still_step
          refine wpStill_nil ?_
          go_wp2_with fail
          have hsn : isNode G s := by rw [hs'.out]; exact okG.adj hX.out.2.2.2.1.1 hY.out.2.1 (by unfold adj; rw [hrow'.out]; exact List.getElem_mem hlt)
          have hN := hJ.out.1.next2 hY.out.2.2.2.2.1 (i + 1)
          rw [show ((i + 1 : Nat) : Int) = (i : Int) + 1 by omega] at hN
          have hsl : (0 : Int) ≤ s ∧ s < bs'.length := by have := hJ.out.1.len; unfold isNode at hsn; omega
          have hrd : adj G n = row := hrow'.out
          have hN2 : SI G (some ad) c w (wr.setCell ⟨g, L * 2 + 1, none⟩ (.int .i64 ((i : Int) + 1))).drew.drew p gb Q v bs' (.slice (some ⟨g, 0, none⟩) (L + 1) cs) (ys ++ [(n, i + 1)]) (.slice Ao out.length co) out := hN.step (by repeat (first | exact Below.refl _ _ | apply below_drew1))
          refine (add_any v Q (some bs') s _ hN2.set_).mono ?_
          rw [setO_in bs' s hsl.1, addB_in bs' s hsl.1 hsl.2]
          rintro e w3 ⟨rfl, hP3, hK3⟩
          cases hm : metOf bs' s with
          | true =>
            rw [set_met hm] at hP3
            have hA := hN2.add hP3 hK3 rfl
            have hst := hJ.out.2
            rw [Grf.step_met (by rw [hrd]; exact hlt) (by simp only [hrd]; rw [← hs'.out]; exact hm)] at hst
            have hZ := Aside0.mk (And.intro hA hst)
            clear hA hst hP3 hK3 hN hN2 hsn hsl hrd t0 t1 t2 t3 cg r0 b0 hJ
            go_wp2_with fail
            go_roundg gk1
            case rel => exact ⟨i + 1, hi2, hZ⟩
            case measure => exact hm2
          | false =>
            have hA := hN2.add hP3 hK3 (by simp)
            have hst := hJ.out.2
            rw [Grf.step_new (by rw [hrd]; exact hlt) (by simp only [hrd]; rw [← hs'.out]; exact hm)] at hst
            simp only [hrd] at hst
            rw [← hs'.out, ← metOf_set bs' s hsl.1 hsl.2] at hst
            have hc9 := Grf.cnt_mark ((mem_nodes G s).2 hsn) hm
            rw [← metOf_set bs' s hsl.1 hsl.2] at hc9
            have hZ := Aside0.mk (And.intro hA (And.intro hst (And.intro hc9 hsn)))
            clear hA hst hP3 hK3 hN hN2 hsn hsl hrd t0 t1 t2 t3 cg r0 b0 hJ hc9 hm
            go_wp2_with fail
            refine (hZ.out.1.enter (by rw [List.length_append, hY.out.2.2.2.2.1]; rfl) (by omega) s).mono ?_
            rintro e w4 ⟨rfl, A4, c4, hE⟩
            have hE' := Aside0.mk hE
            clear hE
            go_wp2_with fail
            have hE2 : Aside0 (SI G (some ad) c w w4 p gb Q v (bs'.set s.toNat true) (.slice A4 ((s, 0) :: (n, i + 1) :: S').length c4) ((s, 0) :: (n, i + 1) :: S').reverse (.slice Ao out.length co) out ∧ Grf.iter (adj G) m ((s, 0) :: (n, i + 1) :: S', metOf (bs'.set s.toNat true), out) = ([], mf, post G a) ∧ (∀ x ∈ (s, 0) :: (n, i + 1) :: S', isNode G x.1) ∧ ((s, 0) :: (n, i + 1) :: S').length + out.length + Grf.cnt (nodes G) (metOf (bs'.set s.toNat true)) ≤ G.length) := by
              refine ⟨?_, ?_, ?_, ?_⟩
              · have h1 := hE'.out
                rw [show ((s, 0) :: (n, i + 1) :: S').reverse = ys ++ [(n, i + 1)] ++ [(s, 0)] by rw [List.reverse_cons, List.reverse_cons, hY.out.2.2.2.1], show ((s, 0) :: (n, i + 1) :: S').length = L + 1 + 1 by rw [List.length_cons, List.length_cons, hY.out.2.2.2.2.2]]
                exact h1
              · rw [hZ.out.2.1]; exact hY.out.1
              · intro x hx
                rcases List.mem_cons.1 hx with rfl | hx
                · exact hZ.out.2.2.2
                · rcases List.mem_cons.1 hx with rfl | hx
                  · exact hY.out.2.1
                  · exact hY.out.2.2.1 x hx
              · have h1 := hcnt'.out
                have h2 := hZ.out.2.2.1
                rw [List.length_cons, List.length_cons, hY.out.2.2.2.2.2]
                omega
            clear hE'
            go_roundg m
            case rel => exact ⟨(s, 0) :: (n, i + 1) :: S', out, bs'.set s.toNat true, A4, c4, Ao, co, rfl, hE2⟩
            case measure => exact hm3
        · have hst := hJ.out.2
          have hrd : adj G n = row := hrow'.out
          rw [Grf.step_end (by rw [hrd]; exact hlt)] at hst
          have hst' := Aside0.mk hst
          have hlti : ¬ (i : Int) < row.length := by omega
          clear hst hrd
          go_wp2_with fail
          refine still_tail 13 (by kernel_rfl) (by kernel_rfl) ?_
          simp only [List.take_succ_cons, List.take_zero, List.drop_succ_cons, List.drop_zero]
          repeat still_step
          refine wpStill_nil ?_
          have hJW := hJ.out.1.step (W := wr.drew) (by repeat (first | exact Below.refl _ _ | apply below_drew1))
          have hstep := hst'.out
          obtain ⟨W, hW⟩ : ∃ W, wr.drew = W := ⟨_, rfl⟩
          rw [hW] at hJW ⊢
          obtain ⟨u0, u1, u2, u3⟩ := hJW.top2 hY.out.2.2.2.2.1
          obtain ⟨P, O, hP, hO, hR5, hR6⟩ := hJW.ex
          have hZ := Aside0.mk (And.intro hJW (And.intro hP (And.intro hO (And.intro hR5 (And.intro hR6 hstep)))))
          clear hW hJW hJ hP hO hR5 hR6 hstep hst' u1 u2 u3 t0 t1 t2 t3 cg r0
          go_wp2_with (at_builtin; refine Kd.R_append (Kd.int .i64) (w0 := W) 0 (by rfl) (.tmp 75) (.tmp 80) 28 3 (.int .i64 0) 8 (by rfl) Try.underlying28 info3 rfl (by decide) (by decide) (.slice Ao out.length co) out n [.int .i64 n] (fun k => O k ∨ W.heap.size ≤ k) (fun _ => False) (by rfl) (by rfl) rfl (fun _ h => h.elim) (fun k hk => .inr hk) (Kd.R_mono hZ.out.2.2.2.2.1 (fun k hk => .inl hk)) ((Kp.refl (fun _ => False) W).belowB (fun _ h => h.elim) (Nat.zero_le _)) (Nat.zero_le _) (by omega) ?_; intro v1 wa hRA hBA hgA hatA; have hSA := hZ.out.1.app hZ.out.2.1 hZ.out.2.2.1 hZ.out.2.2.2.1 hZ.out.2.2.2.2.1 hRA hgA; obtain ⟨A3, c3, hv, _, _⟩ := Kd.R_reads hRA; subst hv; have x7 := cell_at (j := 0) hSA.cell rfl; have y7 := free_at hSA.cell 0; have hZ2 := Aside0.mk hSA; clear hRA hBA hgA hatA hSA)
          have hE2 : Aside0 (SI G (some ad) c w (wa.setCell ⟨p, 0, none⟩ (.slice (some ⟨g, 0, none⟩) L cs)) p gb Q v bs' (.slice (some ⟨g, 0, none⟩) S'.length cs) S'.reverse (.slice A3 (out ++ [n]).length c3) (out ++ [n]) ∧ Grf.iter (adj G) m (S', metOf bs', out ++ [n]) = ([], mf, post G a) ∧ (∀ x ∈ S', isNode G x.1) ∧ S'.length + (out ++ [n]).length + Grf.cnt (nodes G) (metOf bs') ≤ G.length) := by
            refine ⟨?_, ?_, hY.out.2.2.1, ?_⟩
            · rw [hY.out.2.2.2.1, hY.out.2.2.2.2.2]
              exact hZ2.out.pop2 hY.out.2.2.2.2.1
            · rw [hZ.out.2.2.2.2.2]; exact hY.out.1
            · have h1 := hcnt'.out
              rw [hY.out.2.2.2.2.2, List.length_append, List.length_singleton]
              omega
          have e9 : (out ++ [n]).length = out.length + 1 := by simp
          have hm3 : m < m + 1 := by omega
          clear hZ2 hZ
          go_roundg m
          case rel => exact ⟨S', out ++ [n], bs', some ⟨g, 0, none⟩, cs, A3, c3, by rw [e9], hE2⟩
          case measure => exact hm3
end Go.Proofs.Ytbphjbfnnhfhlaa
end

section
/- slices.Repeat at one -1. -/
set_option linter.unusedVariables false
set_option linter.unusedSimpArgs false
namespace Go.Proofs.Ytbphjbfnnhfhlaa
open Go.RowKit Go.Proofs.YtbphjbfnnhfhlaaW.PrintWords Go.Proofs.Ytbphjbfnnhfhlaa.PDigraphTells Mem

end Go.Proofs.Ytbphjbfnnhfhlaa
end

section
/- digraph.Postorder, Reachable and ReversePostorder, for every graph. -/
set_option linter.unusedVariables false
set_option linter.unusedSimpArgs false
namespace Go.Proofs.Ytbphjbfnnhfhlaa
open Go.RowKit Go.Proofs.YtbphjbfnnhfhlaaW.PrintWords Go.Proofs.Ytbphjbfnnhfhlaa.PDigraphTells Mem

theorem hasG_no {G : List (List Int)} {a : Int} (h : ¬ (chk G = 0 ∧ isNode G a)) : hasG G [a] = false := by
  cases e : hasG G [a] with
  | false => rfl
  | true =>
    have := (hasG_iff G [a]).1 e
    exact absurd ⟨this.2, this.1 a (by simp)⟩ h
set_option maxRecDepth 100000 in
theorem post_nil (A : Option Addr) (c : Nat) (G : List (List Int)) (a : Int) (w : World) (hC : Kd.C kG w A G.length G) (hc : G.length ≤ c) (hs : short G) (hok : ¬ (chk G = 0 ∧ isNode G a)) :
    Calls Try.prog 45 #[.agg #[.slice A G.length c], .int .i64 a] w fun e w' => e = .returned (.slice none 0 0) ∧ Below w.heap.size w w' := by
  have hX := Aside0.mk (And.intro hC (And.intro hc (And.intro hs (hasG_no hok))))
  clear hC hc hs hok
  go_enter Try.func45, Try.ntmps45
  go_wp2; go_step3
  go_wp2_with fail
  refine (has_any1 A c G (some ⟨w.heap.size + 1, 0, none⟩) 1 [a] _ (Kd.C_alloc (Kd.C_alloc hX.out.1 _) _) hX.out.2.1 ?_ (by simp) hX.out.2.2.1 (by simp) false hX.out.2.2.2).mono ?_
  · have := C_new (w.alloc (.cells #[.slice A G.length c] 24)) [a] (by simp) _ rfl
    simpa using this
  rintro e w1 ⟨rfl, B1⟩
  have hbb := Aside0.mk (((below_alloc (below_alloc (Below.refl _ w) _) _).trans (B1.mono (by simp; omega)) : Below w.heap.size w w1))
  clear B1
  go_wp2
  try rw [Exit.noGoto_ret]
  go_ret
  exact ⟨rfl, hbb.out⟩
theorem post_any (A : Option Addr) (c : Nat) (G : List (List Int)) (a : Int) (w : World) (hC : Kd.C kG w A G.length G) (hc : G.length ≤ c) (hs : short G) :
    Calls Try.prog 45 #[.agg #[.slice A G.length c], .int .i64 a] w fun e w' => ∃ vo, e = .returned vo ∧ Kd.R (Kd.int .i64) 3 w' 0 (fun k => w.heap.size ≤ k) vo (post G a) ∧ Below w.heap.size w w' := by
  by_cases hok : chk G = 0 ∧ isNode G a
  · exact post_main A c G a w hC hc hs hok
  · have hp : post G a = [] := by unfold post; rw [if_neg hok]
    rw [hp]
    exact (post_nil A c G a w hC hc hs hok).mono fun e w' h => ⟨_, h.1, Kd.R_nil _ _ _ _ _, h.2⟩
set_option maxRecDepth 100000 in
set_option maxHeartbeats 1000000 in
theorem rpost_any (A : Option Addr) (c : Nat) (G : List (List Int)) (a : Int) (w : World) (hC : Kd.C kG w A G.length G) (hc : G.length ≤ c) (hs : short G) (hl : G.length ≤ 65536) :
    Calls Try.prog 31 #[.agg #[.slice A G.length c], .int .i64 a] w fun e w' => ∃ vo, e = .returned vo ∧ Kd.R (Kd.int .i64) 3 w' 0 (fun k => w.heap.size ≤ k) vo (post G a).reverse ∧ Below w.heap.size w w' := by
  have hpl := post_len G a
  obtain ⟨k, hk⟩ := (srev_f (post G a) (by omega)).get
  obtain ⟨po, hpo⟩ : ∃ po, post G a = po := ⟨_, rfl⟩
  rw [hpo] at hk
  have hX := Aside0.mk (And.intro hC (And.intro hc (And.intro hs (And.intro hk hpo))))
  clear hC hc hs hk hpo hpl
  rw [hX.out.2.2.2.2]
  go_enter Try.func31, Try.ntmps31
  go_wp2_with fail
  refine (post_any A c G a _ (Kd.C_alloc hX.out.1 _) hX.out.2.1 hX.out.2.2.1).mono ?_
  rw [hX.out.2.2.2.2]
  rintro e w1 ⟨v1, rfl, R1, B1⟩
  have H1 := Aside0.mk (And.intro (Kd.R_mono R1 (fun k hk => by have : (w.alloc (.cells #[.slice A G.length c] 24)).heap.size = w.heap.size + 1 := by simp
                                                                rw [this] at hk; exact (by omega : w.heap.size ≤ k)) : Kd.R (Kd.int .i64) 3 w1 0 (fun k => w.heap.size ≤ k) v1 po) ((below_alloc (Below.refl _ w) _).trans (B1.mono (by simp)) : Below w.heap.size w w1))
  clear R1 B1
  go_wp2_with fail
  refine (slices_Reverse_int_int.calls k (fun k => w.heap.size ≤ k) v1 po po.reverse w w1 H1.out.2 (Kd.R_raise (d := Kd.int .i64) (b := 0) (b' := w.heap.size) (fun _ _ _ _ h => h) H1.out.1 (fun k hk => H1.out.1.1 k hk)) hX.out.2.2.2.1).mono ?_
  rintro e w2 ⟨rfl, R2, B2, _⟩
  have H2 := Aside0.mk (And.intro R2 B2)
  clear R2 B2
  go_wp2
  go_ret
  exact ⟨_, rfl, Kd.R_lower (Kd.R_mono H2.out.1 (fun k hk => hk.elim id (fun h => Nat.le_trans H1.out.2.size h))) (Nat.zero_le _), H2.out.2⟩

theorem post_found {G : List (List Int)} {a : Int} (h : chk G = 0 ∧ isNode G a) : ∃ met', Grf.Found (adj G) (nodes G) (Grf.Reach (adj G) a) [a] (fun _ => false) [] met' (post G a) (post G a) ∧ ∃ i, post G a = i ++ [a] := by
  obtain ⟨nw, hf, i, hi⟩ := Grf.visit_found (okG.cl h.1) G.length a (fun _ => false) [] (Grf.Reach (adj G) a) ((mem_nodes G a).2 h.2) rfl (by rw [cnt_all]; exact Nat.le_refl _) (fun _ h => h)
  have e2 : (Grf.visit (adj G) G.length a (fun _ => false) []).2 = post G a := by unfold post; rw [if_pos h]
  have he : post G a = nw := by rw [← e2, hf.eq]; rfl
  refine ⟨(Grf.visit (adj G) G.length a (fun _ => false) []).1, ?_, i, by rw [he, hi]⟩
  rw [e2, ← he] at hf
  exact hf
theorem post_mem {G : List (List Int)} {a : Int} (h : chk G = 0 ∧ isNode G a) (x : Int) : x ∈ post G a ↔ Grf.Reach (adj G) a x := by
  obtain ⟨met', hf, _⟩ := post_found h
  refine ⟨hf.reach x, fun hx => ?_⟩
  have hm := hx.closed (M := met') (hf.roots a (by simp)) (fun y hy z hz => by
    rcases (hf.met_ y).1 hy with h1 | h1
    · cases h1
    · exact hf.closed y h1 z hz)
  rcases (hf.met_ x).1 hm with h1 | h1
  · cases h1
  · exact h1
theorem post_nd {G : List (List Int)} {a : Int} (h : chk G = 0 ∧ isNode G a) : (post G a).Nodup := (post_found h).choose_spec.1.nd
end Go.Proofs.Ytbphjbfnnhfhlaa
end

section
/- A queue: a slice that is cut at its head and appended to. -/
set_option linter.unusedVariables false
set_option linter.unusedSimpArgs false
namespace Go.Proofs.Ytbphjbfnnhfhlaa
open Go.RowKit Go.Proofs.YtbphjbfnnhfhlaaW.PrintWords Go.Proofs.Ytbphjbfnnhfhlaa.PDigraphTells Mem

/-- v is a queue that holds q, in a block that satisfies ok. -/
def QR (w : World) (ok : Nat → Prop) (v : Value) (q : List Int) : Prop :=
  ∃ A cap, v = .slice A q.length cap ∧ (0 < q.length → ∃ g off cur, A = some ⟨g, off, none⟩ ∧ ok g ∧ w.heap[g]? = some (.cells cur 3 (0, 0)) ∧ q.length ≤ cap ∧ cap ≤ maxLen ∧ cur.size = off + cap ∧ (cur.toList.drop off).take q.length = encs (Value.int .i64) q)
theorem QR.step {w W : World} {ok : Nat → Prop} {v : Value} {q : List Int} (h : QR w ok v q) (hm : ∀ k, ok k → k < w.heap.size → W.heap[k]? = w.heap[k]?) : QR W ok v q := by
  obtain ⟨A, cap, rfl, h⟩ := h
  refine ⟨A, cap, rfl, fun hp => ?_⟩
  obtain ⟨g, off, cur, hA, hg, hh, r⟩ := h hp
  exact ⟨g, off, cur, hA, hg, (hm g hg (blk_lt' hh)).trans hh, r⟩
theorem QR.mono {w : World} {ok ok' : Nat → Prop} {v : Value} {q : List Int} (h : QR w ok v q) (hm : ∀ k, ok k → k < w.heap.size → ok' k) : QR w ok' v q := by
  obtain ⟨A, cap, rfl, h⟩ := h
  refine ⟨A, cap, rfl, fun hp => ?_⟩
  obtain ⟨g, off, cur, hA, hg, hh, r⟩ := h hp
  exact ⟨g, off, cur, hA, hm g hg (blk_lt' hh), hh, r⟩
theorem QR.at_ {w : World} {ok : Nat → Prop} {v : Value} {x : Int} {q : List Int} (h : QR w ok v (x :: q)) : ∃ g off cap, v = .slice (some ⟨g, off, none⟩) (q.length + 1) cap ∧ q.length + 1 ≤ cap ∧ w.cell? ⟨g, off, none⟩ = some (.int .i64 x) := by
  obtain ⟨A, cap, rfl, h⟩ := h
  obtain ⟨g, off, cur, rfl, hg, hh, hle, hcm, hcs, ht⟩ := h (by simp)
  refine ⟨g, off, cap, rfl, by simpa using hle, cell_at hh ?_⟩
  have h0 : ((cur.toList.drop off).take (x :: q).length)[0]? = some (.int .i64 x) := by rw [ht]; rfl
  rw [List.getElem?_take] at h0
  simp only [List.length_cons, Nat.zero_lt_succ, if_true, List.getElem?_drop, Nat.add_zero] at h0
  simpa using h0
theorem QR.tail {w : World} {ok : Nat → Prop} {x : Int} {q : List Int} {g off cap : Nat} (h : QR w ok (.slice (some ⟨g, off, none⟩) (q.length + 1) cap) (x :: q)) (A : Option Addr) (hA : 0 < q.length → A = some ⟨g, off + 1, none⟩) : QR w ok (.slice A q.length (cap - 1)) q := by
  obtain ⟨A1, cap1, e, h⟩ := h
  injection e with e1 e2 e3
  subst e1
  subst e3
  refine ⟨A, cap - 1, rfl, fun hp => ?_⟩
  obtain ⟨g1, off1, cur, e, hg, hh, hle, hcm, hcs, ht⟩ := h (by simp)
  injection e with e
  injection e with e4 e5
  subst e4
  subst e5
  simp only [List.length_cons] at hle ht
  refine ⟨g, off + 1, cur, hA hp, hg, hh, by omega, by omega, by omega, ?_⟩
  have h2 : ((cur.toList.drop off).take (q.length + 1)).drop 1 = (encs (Value.int .i64) (x :: q)).drop 1 := by rw [ht]
  rw [List.drop_take, List.drop_drop] at h2
  simpa [encs] using h2
end Go.Proofs.Ytbphjbfnnhfhlaa
end

section
/- digraph.distances. -/
set_option linter.unusedVariables false
set_option linter.unusedSimpArgs false
namespace Go.Proofs.Ytbphjbfnnhfhlaa
open Go.RowKit Go.Proofs.YtbphjbfnnhfhlaaW.PrintWords Go.Proofs.Ytbphjbfnnhfhlaa.PDigraphTells Mem

theorem preds_any (A : Option Addr) (c : Nat) (G : List (List Int)) (w : World) (hC : Kd.C kG w A G.length G) (hc : G.length ≤ c) (hs : short G) :
    Calls Try.prog 32 #[.agg #[.slice A G.length c]] w fun e w' => ∃ v, e = .returned v ∧ Kd.R kG 28 w' w.heap.size (fun k => w.heap.size ≤ k) v (predL G) ∧ Below w.heap.size w w' := by
  obtain ⟨k, hk⟩ := (pred_f G hs).get
  refine (digraph_Preds.calls k A c G _ w hC hc hk).mono ?_
  rintro e w' ⟨v, rfl, hS, hb⟩
  exact ⟨v, rfl, Kd.S_R (Kd.S_mono (Kd.S_bound hS) (fun k hk => hk.2.1)), hb⟩
def pre (G : List (List Int)) (x : Int) : List Int := rd_L1 (predL G) x
theorem predL_len {G : List (List Int)} (hG : okG G) : (predL G).length = G.length := by
  have hG' : chk G = 0 := hG
  unfold predL; rw [if_pos hG', List.length_map, nodes_len]
/-- What holds in distances: the answer's row, the predecessors', the queue. -/
structure DS (G : List (List Int)) (w wr : World) (b0 b1 b2 : Nat) (vo : Value) (o : List Int) (vp vq : Value) (q : List Int) : Prop where
  out : Kd.R (Kd.int .i64) 3 wr 0 (fun k => b0 ≤ k ∧ k < b1) vo o
  olen : o.length = G.length
  prd : Kd.R kG 28 wr b1 (fun k => b1 ≤ k ∧ k < b2) vp (predL G)
  que : QR wr (fun k => b2 ≤ k) vq q
  below : Below w.heap.size w wr
  b : w.heap.size ≤ b0 ∧ b0 ≤ b1 ∧ b1 ≤ b2 ∧ b2 ≤ wr.heap.size
section
variable {G : List (List Int)} {w wr W : World} {b0 b1 b2 : Nat} {vo vp vq : Value} {o q : List Int}
theorem DS.step (h : DS G w wr b0 b1 b2 vo o vp vq q) (hb : Below wr.heap.size wr W) : DS G w W b0 b1 b2 vo o vp vq q :=
  ⟨Kd.R_step h.out (fun k _ hk => hb.block k hk), h.olen, Kd.R_step h.prd (fun k _ hk => hb.block k hk), h.que.step (fun k _ hk => hb.block k hk), h.below.trans (hb.mono h.below.size), ⟨h.b.1, h.b.2.1, h.b.2.2.1, Nat.le_trans h.b.2.2.2 hb.size⟩⟩
theorem DS.put {g cap : Nat} (h : DS G w wr b0 b1 b2 (.slice (some ⟨g, 0, none⟩) G.length cap) o vp vq q) (p v : Int) : DS G w (wr.setCell ⟨g, p.toNat, none⟩ (.int .i64 v)) b0 b1 b2 (.slice (some ⟨g, 0, none⟩) G.length cap) (o.set p.toNat v) vp vq q := by
  have hg := h.out.1 g rfl
  have hk : Kp (fun k => b0 ≤ k ∧ k < b1) wr (wr.setCell ⟨g, p.toNat, none⟩ (.int .i64 v)) := (Kp.refl (fun k => b0 ≤ k ∧ k < b1) wr).setCell (p := ⟨g, p.toNat, none⟩) (.inl hg) _
  have hs := hk.size
  exact ⟨(Kd.R_putg h.out p v).1, by rw [List.length_set]; exact h.olen, Kd.R_step h.prd (fun k h1 hlt => hk.block hlt (fun h2 => by have := h2.2; have := h1.1; omega)), h.que.step (fun k h1 hlt => hk.block hlt (fun h2 => by have := h2.2; have := h.b.2.2.1; omega)), h.below.trans (hk.belowB (fun k hk => Nat.le_trans h.b.1 hk.1) h.below.size), ⟨h.b.1, h.b.2.1, h.b.2.2.1, Nat.le_trans h.b.2.2.2 hs⟩⟩
theorem DS.at_ {g cap : Nat} (h : DS G w wr b0 b1 b2 (.slice (some ⟨g, 0, none⟩) G.length cap) o vp vq q) (p : Int) (hp : isNode G p) : wr.cell? ⟨g, p.toNat, none⟩ = some (.int .i64 (distOf o p)) ∧ wr.frozen? ⟨g, p.toNat, none⟩ = false := by
  have hp' := hp
  unfold isNode at hp'
  obtain ⟨h1, h2⟩ := Kd.R_celln 0 h.out p hp'.1 hp'.2
  refine ⟨?_, h2⟩
  rw [h1, ← distOf_rd o p hp'.1 (by rw [h.olen]; exact hp'.2)]
  rfl
theorem DS.app {q' : List Int} {vq' : Value} (h : DS G w wr b0 b1 b2 vo o vp vq q) (hq : QR W (fun k => b2 ≤ k ∨ wr.heap.size ≤ k) vq' q') (hk : Kp (fun k => b2 ≤ k) wr W) : DS G w W b0 b1 b2 vo o vp vq' q' := by
  have hs := hk.size
  have hb := h.b
  exact ⟨Kd.R_step h.out (fun k h1 hlt => hk.block hlt (by omega)), h.olen, Kd.R_step h.prd (fun k h1 hlt => hk.block hlt (by omega)), hq.mono (fun k h1 _ => by omega), h.below.trans (hk.belowB (fun k hk => by omega) h.below.size), ⟨h.b.1, h.b.2.1, h.b.2.2.1, by omega⟩⟩
theorem DS.cut {q' : List Int} {vq' : Value} (h : DS G w wr b0 b1 b2 vo o vp vq q) (hq : QR wr (fun k => b2 ≤ k) vq' q') : DS G w wr b0 b1 b2 vo o vp vq' q' := ⟨h.out, h.olen, h.prd, hq, h.below, h.b⟩
end
theorem DS.row {G : List (List Int)} {w wr : World} {b0 b1 b2 cp : Nat} {vo vq : Value} {o q : List Int} {Ap : Option Addr} (hG : okG G) (h : DS G w wr b0 b1 b2 vo o (.slice Ap G.length cp) vq q) (x : Int) (hx : isNode G x) :
    ∃ gp Ar cr, Ap = some ⟨gp, 0, none⟩ ∧ wr.cell? ⟨gp, x.toNat, none⟩ = some (.slice Ar (pre G x).length cr) ∧ Kd.R (Kd.int .i64) 3 wr b1 (fun k => b1 ≤ k ∧ k < b2) (.slice Ar (pre G x).length cr) (pre G x) := by
  have hx' := hx
  unfold isNode at hx'
  have hl := predL_len hG
  have hR := h.prd
  obtain ⟨gp, cap, ev, _⟩ := Kd.R_form hR (by rw [hl]; omega)
  injection ev with e1 e2 e3
  subst e1
  obtain ⟨c, hc, ⟨v, rfl, hM⟩, hcell, _⟩ := Kd.R_elem hR ([] : List Int) x hx'.1 hx'.2
  have h0 := hcell 0 v rfl
  have e : (predL G).getD x.toNat [] = pre G x := rfl
  rw [e] at hM
  obtain ⟨Ar, cr, rfl, _, _⟩ := Kd.R_reads hM
  refine ⟨gp, Ar, cr, rfl, ?_, Kd.R_mono hM (fun k hk => hk.1)⟩
  rw [show kG.sz = 1 from rfl, Nat.mul_one] at h0
  exact h0
theorem cneg_le (V : List Int) (f : Int → Int) : Grf.cneg V f ≤ V.length := by unfold Grf.cneg; exact List.length_filter_le _ _
/-- The numbers that bound the search. -/
structure DB (G : List (List Int)) (o q : List Int) : Prop where
  high : ∀ a, distOf o a + Grf.cneg (nodes G) (distOf o) ≤ G.length
  room : q.length + Grf.cneg (nodes G) (distOf o) ≤ G.length
theorem DB.put {G : List (List Int)} {o q : List Int} {x p : Int} (h : DB G o q) (hp : isNode G p) (hl : o.length = G.length) (hneg : distOf o p < 0) (hx : 0 ≤ distOf o x) : DB G (o.set p.toNat (distOf o x + 1)) (q ++ [p]) := by
  have hp' := hp
  unfold isNode at hp'
  have hset := distOf_set o p (distOf o x + 1) hp'.1 (by rw [hl]; exact hp'.2)
  have hc := Grf.cneg_put (v := distOf o x + 1) ((mem_nodes G p).2 hp) hneg (by omega)
  refine ⟨fun a => ?_, ?_⟩
  · rw [hset]
    by_cases e : a = p
    · rw [e, Grf.put_same]
      have := h.high x
      omega
    · rw [Grf.put_other _ _ e]
      have := h.high a
      omega
  · rw [hset, List.length_append, List.length_singleton]
    have := h.room
    omega
theorem DB.start {G : List (List Int)} {t : Int} (ht : isNode G t) : DB G ((List.replicate G.length (-1)).set t.toNat 0) [t] := by
  have ht' := ht
  unfold isNode at ht'
  have hset : distOf ((List.replicate G.length (-1)).set t.toNat 0) = Grf.put (fun _ => -1) t 0 := by
    rw [distOf_set _ t 0 ht'.1 (by simp; exact ht'.2), distOf_neg]
  have hc := Grf.cneg_put (f := fun _ => (-1 : Int)) (v := 0) ((mem_nodes G t).2 ht) (by omega) (by omega)
  have h1 := cneg_le (nodes G) (fun _ => -1)
  rw [nodes_len] at h1
  refine ⟨fun a => ?_, ?_⟩
  · rw [hset]
    by_cases e : a = t
    · rw [e, Grf.put_same]; omega
    · rw [Grf.put_other _ _ e]; omega
  · rw [hset, List.length_singleton]; omega

end Go.Proofs.Ytbphjbfnnhfhlaa
end

section
/- digraph.ShortestPath. -/
set_option linter.unusedVariables false
set_option linter.unusedSimpArgs false
namespace Go.Proofs.Ytbphjbfnnhfhlaa
open Go.RowKit Go.Proofs.YtbphjbfnnhfhlaaW.PrintWords Go.Proofs.Ytbphjbfnnhfhlaa.PDigraphTells Mem

/-- What holds ahead of a step along the path. -/
structure PS2 (G : List (List Int)) (r : List Int) (tot : List Int) (w2 wr : World) (vo : Value) (out : List Int) (n : Int) (d : Nat) : Prop where
  row : Kd.R (Kd.int .i64) 3 wr 0 (fun k => w2.heap.size ≤ k) vo out
  below : Below w2.heap.size w2 wr
  node : isNode G n
  far : distOf r n = d
  eq : out ++ (Grf.path (adj G) (distOf r) d n).tail = tot
  len : out.length + d ≤ 70000
theorem PS2.step {G : List (List Int)} {r tot : List Int} {w2 wr W : World} {vo : Value} {out : List Int} {n : Int} {d : Nat} (h : PS2 G r tot w2 wr vo out n d) (hb : Below wr.heap.size wr W) : PS2 G r tot w2 W vo out n d :=
  ⟨Kd.R_step h.row (fun k _ hk => hb.block k hk), h.below.trans (hb.mono h.below.size), h.node, h.far, h.eq, h.len⟩
theorem PS2.zero {G : List (List Int)} {r tot : List Int} {b : Int} {w2 wr : World} {vo : Value} {out : List Int} {n : Int} {d : Nat} (hf : farL G b r) (h : PS2 G r tot w2 wr vo out n d) : n = b ↔ d = 0 := by
  constructor
  · rintro rfl
    have h1 := h.far
    rw [hf.2.zero] at h1
    omega
  · intro h0
    have h1 := hf.2.walk n ((mem_nodes G n).2 h.node) (by rw [h.far]; omega)
    rw [h.far, h0] at h1
    cases h1
    rfl
end Go.Proofs.Ytbphjbfnnhfhlaa
end

section
/- The reference's Preds; what the other printed functions answer, as contracts. -/
set_option linter.unusedVariables false
set_option linter.unusedSimpArgs false
namespace Go.Proofs.Ytbphjbfnnhfhlaa
open Go.RowKit Go.Proofs.YtbphjbfnnhfhlaaW.PrintWords Go.Proofs.Ytbphjbfnnhfhlaa.PDigraphTells Mem

theorem field_succs (A : Option Addr) (n c : Nat) (w : World) : (Instr.field 24 (.agg #[.slice A n c]) 0).run Try.prog w = .ok (.slice A n c) w := by kernel_rfl
end Go.Proofs.Ytbphjbfnnhfhlaa
end

section
/- The example of chapter 6. -/
set_option linter.unusedVariables false
set_option linter.unusedSimpArgs false
namespace Go.Proofs.Ytbphjbfnnhfhlaa
open Go.RowKit Go.Proofs.YtbphjbfnnhfhlaaW.PrintWords Go.Proofs.Ytbphjbfnnhfhlaa.PDigraphTells Mem

def Dia : List (List Int) := [[2, 1], [3], [3], []]
end Go.Proofs.Ytbphjbfnnhfhlaa
end

section
/- What awake answers: the document's fixed results. -/
set_option linter.unusedVariables false
set_option linter.unusedSimpArgs false
namespace Go.Proofs.Ytbphjbfnnhfhlaa
open Go.RowKit Go.Proofs.YtbphjbfnnhfhlaaW.PrintWords Go.Proofs.Ytbphjbfnnhfhlaa.PDigraphTells Mem

/-- The example's world: its graph lies at gb, and its rows are still there. -/
structure AW (w wi : World) (gb : Nat) (A : Option Addr) (c : Nat) : Prop where
  b : Below w.heap.size w wi
  C : Kd.C kG wi A 4 Dia
  g : wi.heap[gb]? = some (.cells #[.slice A 4 c] 24 (0, 0))
theorem AW.step {w wi wj : World} {gb : Nat} {A : Option Addr} {c : Nat} (h : AW w wi gb A c) (hb : Below wi.heap.size wi wj) : AW w wj gb A c :=
  ⟨h.b.trans (hb.mono h.b.size), Kd.C_below h.C hb, (hb.block gb (by have := h.g; rw [Array.getElem?_eq_some_iff] at this; exact this.1)).trans h.g⟩
theorem AW.cell {w wi : World} {gb : Nat} {A : Option Addr} {c : Nat} (h : AW w wi gb A c) : wi.cell? ⟨gb, 0, none⟩ = some (.slice A 4 c) := cell_at h.g rfl

theorem lit_ints (w : World) (cs : Array Value) (e : Nat) (xs : List Int) (g : Nat) (hg : w.heap.size = g) (hcs : cs.toList = xs.map (Value.int .i64)) (hm : xs.length ≤ 1000) : Kd.C (Kd.int .i64) (w.alloc (.cells cs e (0, 0))) (some ⟨g, 0, none⟩) xs.length xs := by
  subst hg
  refine ⟨rfl, by omega, fun _ => ⟨_, rfl, fun j p hj => ⟨[.int .i64 p], rfl, rfl, fun i u hu => ?_⟩⟩⟩
  rcases i with _ | i
  · simp at hu
    subst hu
    rw [show (Kd.int IntKind.i64).sz = 1 from rfl, Nat.mul_one, Nat.add_zero, show (⟨w.heap.size, 0, none⟩ : Addr).add j = ⟨w.heap.size, j, none⟩ from by rcases j with _ | j <;> simp [Addr.add]]
    refine Mem.cell_at (heap_alloc_new w _) ?_
    rw [← Array.getElem?_toList, hcs]
    simp [hj]
  · simp at hu
end Go.Proofs.Ytbphjbfnnhfhlaa
end

section
/- An argument's reading opened by its kind: whole numbers, bools, strings, slices and structs of these, to any depth. -/
set_option linter.unusedVariables false
set_option linter.unusedSimpArgs false
namespace Go.Proofs.Ytbphjbfnnhfhlaa.Opens
open Go.RowKit Go.Proofs.YtbphjbfnnhfhlaaW.PrintWords Go.Proofs.Ytbphjbfnnhfhlaa.Mem Go.Deep

variable {H : Type} {enc : TypeId × Value → H} {P : Program} {W : World}

/-- Whatever cells read as a datum of type t hold a value of kind d, which is good. -/
structure Op {α : Type} (enc : TypeId × Value → H) (P : Program) (W : World) (t : TypeId) (d : Kd α) (good : α → Prop) : Prop where
  op : ∀ {fuel : Nat} {cs : List Value} {x : DataW H × List MemPlace}, DataW.trod enc P W 0 (fun _ => true) true fuel t cs = some x → (∀ n ∈ x.1.weights P t, n ≤ reachBytes) → ∃ y, d.K W y cs ∧ good y

theorem Op.int {t : TypeId} {k : IntKind} (ht : P.underlying t = some (.int k)) : Op enc P W t (Kd.int k) (fun n => (Lit.int k n).wf = true) :=
  ⟨fun h _ => by
    obtain ⟨n, rfl, _, hw⟩ := DataW.trod_int ht h
    exact ⟨n, rfl, hw⟩⟩
theorem Op.bool {t : TypeId} (ht : P.underlying t = some .bool) : Op enc P W t Kd.bool (fun _ => True) :=
  ⟨fun h _ => by
    obtain ⟨n, rfl, _⟩ := DataW.trod_bool ht h
    exact ⟨n, rfl, trivial⟩⟩
theorem Op.string {t : TypeId} (ht : P.underlying t = some .string) : Op enc P W t Kd.string (fun s => s.size ≤ 140737488351232) :=
  ⟨fun h hw => by
    obtain ⟨s, rfl, rfl, _⟩ := DataW.trod_string ht h
    exact ⟨s, rfl, by simpa [DataW.weights, reachBytes] using hw⟩⟩

theorem cell_of_cells {w : World} {a : Addr} {n : Nat} {cs : List Value} (h : w.cells? 0 a n = some cs) : cs.length = n ∧ ∀ i u, cs[i]? = some u → w.cell? (a.add i) = some u := by
  unfold World.cells? at h
  rw [if_pos (Nat.zero_le _)] at h
  have key : ∀ (l : List Nat) (cs : List Value), l.mapM (fun i => w.cell? (a.add i)) = some cs → cs.length = l.length ∧ ∀ (i j : Nat) u, l[i]? = some j → cs[i]? = some u → w.cell? (a.add j) = some u := by
    intro l
    induction l with
    | nil =>
      intro cs h
      simp at h
      subst h
      simp
    | cons b r ih =>
      intro cs h
      simp only [List.mapM_cons, Option.bind_eq_bind, Option.bind_eq_some_iff] at h
      obtain ⟨v, hv, ys, hys, he⟩ := h
      obtain rfl : v :: ys = cs := by simpa using he
      obtain ⟨h1, h2⟩ := ih ys hys
      refine ⟨by simp [h1], fun i j u hi hu => ?_⟩
      cases i with
      | zero => simp at hi hu; subst hi; subst hu; exact hv
      | succ i => exact h2 i j u (by simpa using hi) (by simpa using hu)
  obtain ⟨h1, h2⟩ := key _ _ h
  refine ⟨by simpa using h1, fun i u hu => h2 i i u ?_ hu⟩
  have hl : i < cs.length := (List.getElem?_eq_some_iff.1 hu).1
  rw [h1] at hl
  simp at hl
  simp [hl]

theorem weights_all {e : TypeId} : ∀ (l : List (DataW H)) (n : Nat) (i : Nat) (d : DataW H), l[i]? = some d → n ∈ d.weights P e → n ∈ DataW.weightsAll P e l
  | [], _, _, _, h, _ => by simp at h
  | d0 :: r, n, 0, d, h, hn => by
    simp at h
    subst h
    rw [DataW.weightsAll]
    exact List.mem_append_left _ hn
  | d0 :: r, n, i + 1, d, h, hn => by
    rw [DataW.weightsAll]
    exact List.mem_append_right _ (weights_all r n i d (by simpa using h) hn)

theorem build {β : Type} {n : Nat} {p : Nat → β → Prop} (h : ∀ i, i < n → ∃ y, p i y) : ∃ xs : List β, xs.length = n ∧ ∀ i, i < n → ∃ y, xs[i]? = some y ∧ p i y := by
  induction n with
  | zero => exact ⟨[], rfl, fun i hi => by omega⟩
  | succ m ih =>
    obtain ⟨xs, h1, h2⟩ := ih (fun i hi => h i (by omega))
    obtain ⟨y, g⟩ := h m (by omega)
    refine ⟨xs ++ [y], by simp [h1], fun i hi => ?_⟩
    by_cases e : i < m
    · obtain ⟨y', h3, g'⟩ := h2 i e
      exact ⟨y', by rw [List.getElem?_append_left (by omega)]; exact h3, g'⟩
    · obtain rfl : i = m := by omega
      exact ⟨y, by rw [← h1]; simp, g⟩

theorem Op.slice {α : Type} {t e : TypeId} {d : Kd α} {good : α → Prop} {B : Nat} (h : Op enc P W e d good) (ht : P.underlying t = some (.slice e)) (hc : P.cellsOf e = d.sz) (hB : P.bytesOf e = B) :
    Op enc P W t (Kd.slice e d) (fun xs => xs.length * B ≤ 140737488351232 ∧ ∀ x ∈ xs, good x) := by
  refine ⟨fun {fuel cs x} hx hw => ?_⟩
  rcases DataW.trod_slice ht hx with ⟨rfl, rfl⟩ | ⟨a, len, cap, elems, rest, n, rfl, rfl, rfl, _, hl, hm, hel, hcell, _, _⟩
  · exact ⟨[], ⟨none, 0, rfl, Nat.le_refl _, Kd.C_nil d W⟩, by simp, fun x hx => by simp at hx⟩
  · have hsz : (elems.length + rest.length) * B ≤ 140737488351232 := by
      have := hw ((elems.length + rest.length) * P.bytesOf e) (by simp [DataW.weights, ht])
      simpa [hB, reachBytes] using this
    have each : ∀ i, i < len → ∃ y c, c.length = d.sz ∧ (∀ j u, c[j]? = some u → W.cell? ((a.add (i * d.sz)).add j) = some u) ∧ d.K W y c ∧ good y := by
      intro i hi
      have h1 := hcell i hi
      have hi2 : i < elems.length := by omega
      rw [List.getElem?_eq_getElem hi2, Option.bind_eq_some_iff] at h1
      obtain ⟨c, hc1, hc2⟩ := h1
      obtain ⟨y, hy, hg⟩ := h.op hc2 (fun n hn => hw n (by
        simp only [DataW.weights, ht]
        refine List.mem_cons_of_mem _ (List.mem_append_left _ (weights_all _ n i elems[i].1 ?_ hn))
        simp [hi2]))
      rw [hc] at hc1
      obtain ⟨g1, g2⟩ := cell_of_cells hc1
      exact ⟨y, c, g1, g2, hy, hg⟩
    have hxs : ∃ xs : List α, xs.length = len ∧ ∀ i, i < len → ∃ y, xs[i]? = some y ∧ ∃ c, c.length = d.sz ∧ (∀ j u, c[j]? = some u → W.cell? ((a.add (i * d.sz)).add j) = some u) ∧ d.K W y c ∧ good y := build each
    obtain ⟨xs, h1, h2⟩ := hxs
    refine ⟨xs, ⟨some a, cap, by rw [h1], by omega, ?_⟩, ?_, ?_⟩
    · refine ⟨rfl, by rw [h1]; unfold maxLen at hm; omega, fun _ => ⟨a, rfl, fun j p hj => ?_⟩⟩
      have hjl : j < len := by
        have := (List.getElem?_eq_some_iff.1 hj).1
        omega
      obtain ⟨y, e1, c, g1, g2, g3, g4⟩ := h2 j hjl
      rw [hj] at e1
      injection e1 with e1
      subst e1
      refine ⟨c, g1, g3, fun i u hu => ?_⟩
      have := g2 i u hu
      rwa [Go.Deep.add_add] at this
    · refine Nat.le_trans (Nat.mul_le_mul_right _ ?_) hsz
      omega
    · intro x hx
      obtain ⟨i, hi, rfl⟩ := List.getElem_of_mem hx
      obtain ⟨y, e1, c, g1, g2, g3, g4⟩ := h2 i (by omega)
      rw [List.getElem?_eq_getElem hi] at e1
      injection e1 with e1
      exact e1 ▸ g4

/-- The fields fs of a struct, from the cell at off on, hold a value of kind d. -/
structure Fs {α : Type} (enc : TypeId × Value → H) (P : Program) (W : World) (fs : List Field) (off : Nat) (d : Kd α) (good : α → Prop) : Prop where
  op : ∀ {fuel : Nat} {cs : List Value} {xs : List (DataW H × List MemPlace)}, xs.length = fs.length → (∀ (i : Nat) (f : Field), fs[i]? = some f → DataW.trod enc P W 0 (fun _ => true) true fuel f.type ((cs.drop f.offset).take (P.cellsOf f.type)) = xs[i]?) →
    (∀ n ∈ DataW.weightsEach P (fs.map (·.type)) (xs.map (·.1)), n ≤ reachBytes) → ∃ y, d.K W y ((cs.drop off).take d.sz) ∧ good y

theorem Fs.one {α : Type} {f : Field} {d : Kd α} {good : α → Prop} (h : Op enc P W f.type d good) (hc : P.cellsOf f.type = d.sz) : Fs enc P W [f] f.offset d good := by
  refine ⟨fun {fuel cs xs} hl hx hw => ?_⟩
  match xs, hl with
  | [x], _ =>
    have h1 := hx 0 f rfl
    obtain ⟨y, hy, hg⟩ := h.op h1 (fun n hn => hw n (by simp [DataW.weightsEach, hn]))
    rw [hc] at hy
    exact ⟨y, hy, hg⟩
theorem Fs.cons {α β : Type} {f : Field} {fs : List Field} {a : Kd α} {b : Kd β} {ga : α → Prop} {gb : β → Prop} {off : Nat} (h : Op enc P W f.type a ga) (k : Fs enc P W fs off b gb) (hc : P.cellsOf f.type = a.sz) (ho : off = f.offset + a.sz) :
    Fs enc P W (f :: fs) f.offset (Kd.pair a b) (fun x => ga x.1 ∧ gb x.2) := by
  refine ⟨fun {fuel cs xs} hl hx hw => ?_⟩
  match xs, hl with
  | x :: r, hl =>
    have h1 := hx 0 f rfl
    obtain ⟨y, hy, hg⟩ := h.op h1 (fun n hn => hw n (by simp [DataW.weightsEach, hn]))
    obtain ⟨z, hz, hgz⟩ := k.op (cs := cs) (xs := r) (by simpa using hl) (fun i f' hf => by simpa using hx (i + 1) f' (by simpa using hf)) (fun n hn => hw n (by
      simp only [List.map_cons, DataW.weightsEach]
      exact List.mem_append_right _ hn))
    rw [hc] at hy
    refine ⟨(y, z), ⟨_, _, ?_, hy, hz⟩, hg, hgz⟩
    rw [ho, ← List.drop_drop]
    show List.take (a.sz + b.sz) _ = _
    rw [List.take_add]
theorem Op.struct {α β : Type} {t : TypeId} {fs : Array Field} {l : List Field} {d : Kd α} {good : α → Prop} (h : Fs enc P W l 0 d good) (ht : P.underlying t = some (.struct fs)) (hl : fs.toList = l) (hc : P.cellsOf t = d.sz) (f : β → α) (g : α → β) (hfg : ∀ z, f (g z) = z) :
    Op enc P W t (Kd.iso d f) (fun y => good (f y)) := by
  refine ⟨fun {fuel cs x} hx hw => ?_⟩
  obtain ⟨xs, n, rfl, rfl, hcs, hxl, hall⟩ := DataW.trod_struct ht hx
  obtain ⟨y, hy, hg⟩ := h.op (fuel := n) (cs := cs) (xs := xs) (by rw [← hl]; simpa using hxl) (fun i f' hf => hall i f' (by rw [← hl] at hf; simpa using hf)) (fun n hn => hw n (by simpa [DataW.weights, ht, hl] using hn))
  refine ⟨g y, ?_, by rw [hfg]; exact hg⟩
  show d.K W (f (g y)) cs
  rw [hfg]
  have e : (cs.drop 0).take d.sz = cs := by rw [List.drop_zero, ← hc, ← hcs, List.take_length]
  rwa [e] at hy
theorem Op.imp {α : Type} {t : TypeId} {d : Kd α} {good good' : α → Prop} (h : Op enc P W t d good) (hg : ∀ x, good x → good' x) : Op enc P W t d good' := ⟨fun hx hw => by
  obtain ⟨y, hy, hgy⟩ := h.op hx hw
  exact ⟨y, hy, hg y hgy⟩⟩

/-- An argument that is a struct. -/
theorem Op.arg_agg {α : Type} {t : TypeId} {d : Kd α} {good : α → Prop} {v : Value} {x : DataW H} {p : List MemPlace} (h : Op enc P W t d good) (hv : ∃ cs, v = .agg cs) (hx : DataW.Trod enc P W 0 (fun _ => true) true t v x p)
    (hw : ∀ n ∈ x.weights P t, n ≤ reachBytes) : ∃ y cs, v = .agg cs ∧ d.K W y cs.toList ∧ good y := by
  obtain ⟨cs, rfl⟩ := hv
  obtain ⟨fuel, hf⟩ := hx
  obtain ⟨y, hy, hg⟩ := h.op hf hw
  exact ⟨y, cs, rfl, by simpa [Value.cells] using hy, hg⟩
theorem weight_of {ts : List TypeId} {ds : List (DataW H)} (h : (DataW.weightsEach P ts ds).all (· ≤ reachBytes) = true) {j : Nat} {t : TypeId} {d : DataW H} (ht : ts[j]? = some t) (hd : ds[j]? = some d) : ∀ n ∈ d.weights P t, n ≤ reachBytes :=
  fun n hn => by simpa using List.all_eq_true.1 h n (DataW.weights_mem_each ht hd n hn)
end Go.Proofs.Ytbphjbfnnhfhlaa.Opens
end

section
/- What the laws' walks share: the argument, the world. -/
set_option linter.unusedVariables false
set_option linter.unusedSimpArgs false
namespace Go.Proofs.Ytbphjbfnnhfhlaa
open Go.RowKit Go.Proofs.YtbphjbfnnhfhlaaW.PrintWords Go.Proofs.Ytbphjbfnnhfhlaa.PDigraphTells Mem

def fSuccs : Field := { name := "Succs", type := 22, offset := 0, embedded := false, tag := "", pkgPath := "", byteOffset := 0 }
def kGr : Kd (List (List Int)) := Kd.iso (Kd.slice 28 kG) (fun x : List (List Int) => x)
/-- What an argument's weights say about a graph. -/
structure big (G : List (List Int)) : Prop where
  len : G.length * 24 ≤ 140737488351232
  row : ∀ l ∈ G, l.length * 8 ≤ 140737488351232
theorem graph_op {H : Type} {enc : TypeId × Value → H} {W : World} : Opens.Op enc Try.prog W 24 kGr big :=
  (Opens.Op.struct (Opens.Fs.one (f := fSuccs) (Opens.Op.slice (B := 24) (Opens.Op.slice (B := 8) (Opens.Op.int Try.underlying3) Try.underlying28 (by kernel_rfl) (by kernel_rfl)) Try.underlying22 (by kernel_rfl) (by kernel_rfl)) (by kernel_rfl)) Try.underlying24 rfl (by kernel_rfl) (fun x : List (List Int) => x) (fun x => x) (fun _ => rfl)).imp
    (fun G h => ⟨h.1, fun l hl => (h.2 l hl).1⟩)
theorem big.short {G : List (List Int)} (h : big G) : short G := ⟨by have := h.len; omega, fun l hl => by have := h.row l hl; omega⟩
theorem big.edges {G : List (List Int)} (h : big G) (hl : G.length ≤ 60) : edges G < 4611686018427387904 := by
  have h1 := edges_le 17592186043904 G (fun l hl => by have := h.row l hl; omega)
  have h2 : G.length * 17592186043904 ≤ 60 * 17592186043904 := Nat.mul_le_mul_right _ hl
  omega
theorem graph_arg {cs : Array Value} {G : List (List Int)} {w : World} (h : kGr.K w G cs.toList) : ∃ A c, cs = #[.slice A G.length c] ∧ G.length ≤ c ∧ Kd.C kG w A G.length G := by
  obtain ⟨A, c, h1, h2, h3⟩ := h
  exact ⟨A, c, by have := congrArg List.toArray h1; simpa using this, h2, h3⟩
/-- The law's world: its argument lies at gb, the graph's rows are there, and nothing below has changed. -/
structure Gw (w wi : World) (gb : Nat) (A : Option Addr) (c : Nat) (G : List (List Int)) : Prop where
  b : Below w.heap.size w wi
  C : Kd.C kG wi A G.length G
  g : wi.heap[gb]? = some (.cells #[.slice A G.length c] 24 (0, 0))
theorem Gw.start {w : World} {A : Option Addr} {c : Nat} {G : List (List Int)} (h : Kd.C kG w A G.length G) : Gw w (w.alloc (.cells #[.slice A G.length c] 24 (0, 0))) w.heap.size A c G :=
  ⟨below_alloc (Below.refl _ _) _, Kd.C_alloc h _, heap_alloc_new w _⟩
theorem Gw.step {w wi wj : World} {gb : Nat} {A : Option Addr} {c : Nat} {G : List (List Int)} (h : Gw w wi gb A c G) (hb : Below wi.heap.size wi wj) : Gw w wj gb A c G :=
  ⟨h.b.trans (hb.mono h.b.size), Kd.C_below h.C hb, (hb.block gb (blk_lt' h.g)).trans h.g⟩
theorem Gw.drewN {w wi : World} {gb : Nat} {A : Option Addr} {c : Nat} {G : List (List Int)} (h : Gw w wi gb A c G) (n : Nat) : Gw w (wi.drewN n) gb A c G :=
  h.step (pw_below_drewN (Below.refl _ _) _)
theorem Gw.cell {w wi : World} {gb : Nat} {A : Option Addr} {c : Nat} {G : List (List Int)} (h : Gw w wi gb A c G) : wi.cell? ⟨gb, 0, none⟩ = some (.slice A G.length c) := cell_at h.g rfl

end Go.Proofs.Ytbphjbfnnhfhlaa
end

section
/- The reverse postorder in plain lists: positions, backward edges and cycles. -/
set_option linter.unusedVariables false
set_option linter.unusedSimpArgs false
namespace Go.Proofs.Ytbphjbfnnhfhlaa
open Go.RowKit Go.Proofs.YtbphjbfnnhfhlaaW.PrintWords Go.Proofs.Ytbphjbfnnhfhlaa.PDigraphTells Mem

/-- Where n stands in a list; -1 if it does not. -/
def pos (T : List Int) (n : Int) : Int := if n ∈ T then (T.idxOf n : Int) else -1
theorem pos_out {T : List Int} {n : Int} (h : n ∉ T) : pos T n = -1 := by unfold pos; rw [if_neg h]
theorem pos_in {T : List Int} {n : Int} (h : n ∈ T) : 0 ≤ pos T n ∧ pos T n < T.length := by
  unfold pos; rw [if_pos h]
  have := List.idxOf_lt_length_of_mem h
  omega
theorem pos_nonneg {T : List Int} {n : Int} : 0 ≤ pos T n ↔ n ∈ T := by
  by_cases h : n ∈ T
  · exact ⟨fun _ => h, fun _ => (pos_in h).1⟩
  · rw [pos_out h]; exact ⟨fun h1 => by omega, fun h1 => absurd h1 h⟩
theorem pos_left {T R : List Int} {n : Int} (h : n ∈ T) : pos (T ++ R) n = pos T n := by
  unfold pos
  rw [if_pos h, if_pos (List.mem_append_left _ h), List.idxOf_append, if_pos h]
theorem pos_mid {T R : List Int} {x : Int} (h : x ∉ T) : pos (T ++ x :: R) x = T.length := by
  unfold pos
  rw [if_pos (by simp), List.idxOf_append, if_neg h]
  simp
theorem pos_snoc {T : List Int} {x : Int} (hx : x ∉ T) (n : Int) : pos (T ++ [x]) n = if n = x then (T.length : Int) else pos T n := by
  by_cases e : n = x
  · subst e; rw [if_pos rfl, pos_mid hx]
  · rw [if_neg e]
    by_cases h : n ∈ T
    · exact pos_left h
    · rw [pos_out h, pos_out (by simp [h, e])]
theorem pos_inj {T : List Int} {x y : Int} (hx : x ∈ T) (h : pos T x = pos T y) : x = y := by
  have hy : y ∈ T := pos_nonneg.1 (by rw [← h]; exact (pos_in hx).1)
  unfold pos at h
  rw [if_pos hx, if_pos hy] at h
  have h1 := List.idxOf_lt_length_of_mem hx
  have h2 : T.idxOf x = T.idxOf y := by omega
  have e1 : T[T.idxOf x]'h1 = x := List.getElem_idxOf h1
  have e2 : T[T.idxOf y]'(List.idxOf_lt_length_of_mem hy) = y := List.getElem_idxOf _
  rw [← e1, ← e2]
  simp only [h2]
/-- The list of positions. -/
def posL (G : List (List Int)) (T : List Int) : List Int := (nodes G).map (pos T)
theorem posL_len (G : List (List Int)) (T : List Int) : (posL G T).length = G.length := by unfold posL; rw [List.length_map, nodes_len]
theorem posL_get (G : List (List Int)) (T : List Int) (n : Int) (h : isNode G n) : rd (posL G T) n = pos T n := by
  unfold isNode at h
  rw [distOf_rd _ _ h.1 (by rw [posL_len]; exact h.2)]
  have e : n = (n.toNat : Int) := by omega
  rw [e, distOf_get _ n.toNat (by rw [posL_len]; omega)]
  unfold posL nodes
  rw [List.getElem_map, List.getElem_map, List.getElem_range]
theorem posL_set (G : List (List Int)) {T : List Int} {x : Int} (h : isNode G x) (hx : x ∉ T) : (posL G T).set x.toNat (T.length : Int) = posL G (T ++ [x]) := by
  have h' := h
  unfold isNode at h'
  refine distOf_ext (by rw [List.length_set, posL_len, posL_len]) fun y h0 h1 => ?_
  rw [List.length_set, posL_len] at h1
  have hy : isNode G y := by unfold isNode; omega
  rw [distOf_set _ _ _ h'.1 (by rw [posL_len]; exact h'.2), ← distOf_rd (posL G (T ++ [x])) y h0 (by rw [posL_len]; exact h1), posL_get G _ y hy, pos_snoc hx]
  unfold Grf.put
  split
  · rfl
  · rw [← distOf_rd (posL G T) y h0 (by rw [posL_len]; exact h1), posL_get G _ y hy]
theorem posL_nil (G : List (List Int)) : posL G [] = List.replicate G.length (-1) := by
  unfold posL
  rw [← nodes_len G]
  have : ∀ l : List Int, l.map (pos []) = List.replicate l.length (-1) := by
    intro l
    induction l with
    | nil => rfl
    | cons x r ih => rw [List.map_cons, ih, List.length_cons, List.replicate_succ, pos_out (by simp)]
  exact this _
theorem posL_last (G : List (List Int)) {L : List Int} (hnd : L.Nodup) (i : Nat) (h : i < L.length) : L[i] ∉ L.take i := by
  intro hm
  obtain ⟨j, hj, e⟩ := List.getElem_of_mem hm
  rw [List.length_take] at hj
  rw [List.getElem_take] at e
  exact List.pairwise_iff_getElem.1 hnd j i (by omega) h (by omega) e

/-- The edges of the rows below i. -/
def pairs (G : List (List Int)) (i : Nat) : List (Int × Int) := (List.range i).flatMap fun a => (G.getD a []).map fun k => ((a : Int), k)
theorem mem_pairs (G : List (List Int)) (m k : Int) : (m, k) ∈ pairs G G.length ↔ isNode G m ∧ k ∈ adj G m := by
  unfold pairs
  rw [List.mem_flatMap]
  constructor
  · rintro ⟨a, ha, h⟩
    rw [List.mem_range] at ha
    obtain ⟨x, hx, e⟩ := List.mem_map.1 h
    injection e with e1 e2
    subst e1 e2
    refine ⟨by unfold isNode; omega, ?_⟩
    rw [adj_nat G a ha]
    simpa [ha] using hx
  · rintro ⟨h1, h2⟩
    obtain ⟨hi, e⟩ := adj_eq h1
    unfold isNode at h1
    refine ⟨m.toNat, List.mem_range.2 hi, List.mem_map.2 ⟨k, ?_, ?_⟩⟩
    · rw [e] at h2; simpa [hi] using h2
    · rw [Int.toNat_of_nonneg h1.1]
def pA (f : Int → Int) (n : Int) (e : Int × Int) : Bool := (e.2 == n) && (decide (0 ≤ f e.1) && decide (f e.1 < f n))
section
variable {G : List (List Int)} {a : Int} (h : chk G = 0 ∧ isNode G a)
include h
theorem rpo_mem (x : Int) : x ∈ (post G a).reverse ↔ Grf.Reach (adj G) a x := by rw [List.mem_reverse]; exact post_mem h x
theorem reach_node {x : Int} (hx : Grf.Reach (adj G) a x) : isNode G x := (mem_nodes G x).1 (hx.mem (okG.cl h.1) ((mem_nodes G a).2 h.2))
theorem rpo_head : ∃ t, (post G a).reverse = a :: t := by
  obtain ⟨_, _, i, hi⟩ := post_found h
  exact ⟨i.reverse, by rw [hi]; simp⟩
theorem rpo_split {i : List Int} {x : Int} {b : List Int} (e : post G a = i ++ x :: b) : (post G a).reverse = b.reverse ++ x :: i.reverse ∧ x ∉ i ∧ x ∉ b ∧ ∀ y ∈ i, y ∉ b := by
  have hnd := post_nd h
  rw [e] at hnd ⊢
  rw [List.nodup_append] at hnd
  obtain ⟨h1, h2, h3⟩ := hnd
  rw [List.nodup_cons] at h2
  refine ⟨by simp, fun hx => h3 x hx x (by simp) rfl, h2.1, fun y hy hb => h3 y hy y (List.mem_cons_of_mem _ hb) rfl⟩
theorem after_final {x : Int} (hx : Grf.Reach (adj G) a x) : x = a ∨ (pairs G G.length).any (pA (pos (post G a).reverse) x) = true := by
  obtain ⟨met', hf, _⟩ := post_found h
  obtain ⟨i, b, e⟩ := List.append_of_mem ((post_mem h x).2 hx)
  rcases hf.parent i x b e with h1 | ⟨m, hm, hadj⟩
  · exact .inl (by simpa using h1)
  · right
    obtain ⟨e2, n1, n2, n3⟩ := rpo_split h e
    have hmr : Grf.Reach (adj G) a m := (post_mem h m).1 (by rw [e]; simp [hm])
    rw [List.any_eq_true]
    refine ⟨(m, x), (mem_pairs G m x).2 ⟨reach_node h hmr, hadj⟩, ?_⟩
    have p1 : pos (post G a).reverse x = b.length := by rw [e2, pos_mid (by simpa using n2)]; simp
    have p2 : pos (post G a).reverse m = pos b.reverse m := by rw [e2]; exact pos_left (by simpa using hm)
    have p3 := pos_in (T := b.reverse) (n := m) (by simpa using hm)
    rw [List.length_reverse] at p3
    simp only [pA, beq_self_eq_true, Bool.true_and, Bool.and_eq_true, decide_eq_true_eq]
    rw [p1, p2]
    exact p3
end
end Go.Proofs.Ytbphjbfnnhfhlaa
end

section
/- Dominators in plain lists: the iteration over trees of parents comes to the dominators. -/
set_option linter.unusedVariables false
set_option linter.unusedSimpArgs false
set_option linter.unusedSectionVars false
namespace Go.Proofs.Ytbphjbfnnhfhlaa.Dm

/-- v lies on the way up from x in the parents T. -/
inductive Anc (T : Int → Int) : Int → Int → Prop
  | refl {x : Int} (h : 0 ≤ T x) : Anc T x x
  | step {v x : Int} (h : 0 ≤ T x) (hn : T x ≠ x) (ha : Anc T v (T x)) : Anc T v x
theorem Anc.right {T : Int → Int} {v x : Int} (h : Anc T v x) : 0 ≤ T x := by cases h <;> assumption
theorem Anc.left {T : Int → Int} {v x : Int} (h : Anc T v x) : 0 ≤ T v := by
  induction h with
  | refl h => exact h
  | step _ _ _ ih => exact ih
theorem Anc.trans {T : Int → Int} {v w x : Int} (h : Anc T v w) (h2 : Anc T w x) : Anc T v x := by
  induction h2 with
  | refl => exact h
  | step a b _ ih => exact .step a b ih
theorem Anc.up {T : Int → Int} {v x : Int} (h : Anc T v x) (hn : v ≠ x) : T x ≠ x ∧ Anc T v (T x) := by
  cases h with
  | refl => exact absurd rfl hn
  | step _ a b => exact ⟨a, b⟩

/-- What holds of the parents: those that are set lead down in rank to the root. -/
structure WF (r : Int → Int) (e : Int) (T : Int → Int) : Prop where
  root : T e = e
  e0 : 0 ≤ e
  r0 : r e = 0
  nn : ∀ x, 0 ≤ T x → 0 ≤ x ∧ 0 ≤ r x
  down : ∀ x, 0 ≤ T x → x ≠ e → 0 ≤ T (T x) ∧ r (T x) < r x
  inj : ∀ x y, 0 ≤ r x → r x = r y → x = y
section
variable {r : Int → Int} {e : Int} {T : Int → Int} (h : WF r e T)
include h
theorem WF.anc_le {v x : Int} (ha : Anc T v x) : r v ≤ r x ∧ (r v = r x → v = x) := by
  induction ha with
  | refl => exact ⟨Int.le_refl _, fun _ => rfl⟩
  | @step x a b c ih =>
    have hx : x ≠ e := fun e1 => b (by rw [e1]; exact h.root)
    have := (h.down x a hx).2
    exact ⟨by omega, fun e1 => by omega⟩
theorem WF.anc_e {v : Int} (ha : Anc T v e) : v = e := by
  have h1 := h.anc_le ha
  have h2 := (h.nn v ha.left).2
  have h3 := h.r0
  exact h1.2 (by omega)
theorem WF.self {x : Int} (hx : 0 ≤ T x) (hn : x ≠ e) : T x ≠ x := fun e1 => by have := (h.down x hx hn).2; rw [e1] at this; omega
theorem WF.parent {x : Int} (hx : 0 ≤ T x) (hn : x ≠ e) : Anc T (T x) x := .step hx (h.self hx hn) (.refl (h.down x hx hn).1)
theorem WF.from_root : ∀ (n : Nat) (x : Int), (r x).toNat ≤ n → 0 ≤ T x → Anc T e x := by
  intro n
  induction n with
  | zero =>
    intro x hx h0
    have h1 := (h.nn x h0).2
    have h2 : x = e := h.inj x e h1 (by rw [h.r0]; omega)
    subst h2
    exact .refl h0
  | succ n ih =>
    intro x hx h0
    by_cases e1 : x = e
    · subst e1; exact .refl h0
    · obtain ⟨h1, h2⟩ := h.down x h0 e1
      have h3 := (h.nn _ h1).2
      exact .step h0 (h.self h0 e1) (ih _ (by omega) h1)
theorem WF.all {x : Int} (hx : 0 ≤ T x) : Anc T e x := h.from_root _ x (Nat.le_refl _) hx
end
def put (T : Int → Int) (x w : Int) : Int → Int := fun y => if y = x then w else T y
theorem put_at (T : Int → Int) (x w : Int) : put T x w x = w := by unfold put; rw [if_pos rfl]
theorem put_ne (T : Int → Int) {x w y : Int} (h : y ≠ x) : put T x w y = T y := by unfold put; rw [if_neg h]
theorem put_same (T : Int → Int) (x : Int) : put T x (T x) = T := by
  funext y
  unfold put
  split
  · rename_i h; rw [h]
  · rfl
section
variable {r : Int → Int} {e : Int} {T : Int → Int} (h : WF r e T)
include h
theorem WF.put {x w : Int} (hxe : x ≠ e) (hx : 0 ≤ x) (hrx : 0 ≤ r x) (hw : 0 ≤ T w) (hr : r w < r x) : WF r e (put T x w) := by
  have hw0 := (h.nn w hw).1
  have hwx : w ≠ x := fun e1 => by rw [e1] at hr; omega
  refine ⟨by rw [put_ne _ (Ne.symm hxe)]; exact h.root, h.e0, h.r0, fun y hy => ?_, fun y hy hye => ?_, h.inj⟩
  · by_cases e1 : y = x
    · subst e1; exact ⟨hx, hrx⟩
    · rw [put_ne _ e1] at hy; exact h.nn y hy
  · by_cases e1 : y = x
    · subst e1
      rw [put_at, put_ne _ hwx]
      exact ⟨hw, hr⟩
    · rw [put_ne _ e1] at hy ⊢
      obtain ⟨h1, h2⟩ := h.down y hy hye
      refine ⟨?_, h2⟩
      by_cases e2 : T y = x
      · rw [e2, put_at]; exact hw0
      · rw [put_ne _ e2]; exact h1
theorem WF.same {x w : Int} {u : Int} (hu : r u < r x) (v : Int) : Anc (Dm.put T x w) v u ↔ Anc T v u := by
  constructor
  · intro ha
    have key : ∀ v u, Anc (Dm.put T x w) v u → r u < r x → Anc T v u := by
      intro v u ha
      induction ha with
      | refl hh =>
        intro hu
        have : v ≠ x := fun e1 => by rw [e1] at hu; omega
        rw [put_ne _ this] at hh
        exact .refl hh
      | @step u a b c ih =>
        intro hu
        have hne : u ≠ x := fun e1 => by rw [e1] at hu; omega
        rw [put_ne _ hne] at a b c ih
        have hue : u ≠ e := fun e1 => b (by rw [e1]; exact h.root)
        have := (h.down u a hue).2
        exact .step a b (ih (by omega))
    exact key v u ha hu
  · intro ha
    induction ha with
    | refl hh =>
      have : v ≠ x := fun e1 => by rw [e1] at hu; omega
      exact .refl (by rw [put_ne _ this]; exact hh)
    | @step u a b c ih =>
      have hne : u ≠ x := fun e1 => by rw [e1] at hu; omega
      have hue : u ≠ e := fun e1 => b (by rw [e1]; exact h.root)
      have := (h.down u a hue).2
      refine .step (by rw [put_ne _ hne]; exact a) (by rw [put_ne _ hne]; exact b) ?_
      rw [put_ne _ hne]
      exact ih (by omega)
theorem WF.shrink {x w : Int} (hxe : x ≠ e) (hx : 0 ≤ T x) (hw : Anc T w (T x)) {u v : Int} (ha : Anc (Dm.put T x w) v u) : Anc T v u := by
  induction ha with
  | refl hh =>
    by_cases e1 : v = x
    · subst e1; exact .refl hx
    · rw [put_ne _ e1] at hh; exact .refl hh
  | @step u a b c ih =>
    by_cases e1 : u = x
    · subst e1
      rw [put_at] at ih
      exact .step hx (h.self hx hxe) (ih.trans hw)
    · rw [put_ne _ e1] at a b ih
      exact .step a b ih
end

/-- The graph as the iteration sees it. -/
structure Gd (r : Int → Int) (e : Int) (E : Int → Int → Prop) (Dom : Int → Int → Prop) : Prop where
  fwd : ∀ x, 0 ≤ r x → x ≠ e → ∃ u, E u x ∧ 0 ≤ r u ∧ r u < r x
  nn : ∀ x, 0 ≤ r x → 0 ≤ x
  domE : ∀ d p y, Dom d y → d ≠ y → E p y → 0 ≤ r p → Dom d p
  domRoot : ∀ d, Dom d e → d = e
/-- w is the deepest common ancestor of x's predecessors that are set. -/
structure Nca (r : Int → Int) (E : Int → Int → Prop) (T : Int → Int) (x w : Int) : Prop where
  pr : 0 ≤ T w
  all : ∀ p, E p x → 0 ≤ r p → 0 ≤ T p → Anc T w p
  max : ∀ v, (∀ p, E p x → 0 ≤ r p → 0 ≤ T p → Anc T v p) → Anc T v w
def domOk (e : Int) (Dom : Int → Int → Prop) (T : Int → Int) : Prop := ∀ y d, y ≠ e → 0 ≤ T y → Dom d y → d ≠ y → Dom d (T y)
theorem chainD {r : Int → Int} {e : Int} {E : Int → Int → Prop} {Dom : Int → Int → Prop} {T : Int → Int} (g : Gd r e E Dom) (h : WF r e T) (hD : domOk e Dom T) {d : Int} :
    ∀ (n : Nat) (p : Int), (r p).toNat ≤ n → 0 ≤ T p → Dom d p → Anc T d p ∧ ∀ q, Anc T q p → r d ≤ r q → Dom d q := by
  intro n
  induction n with
  | zero =>
    intro p hp h0 hd
    have h1 := (h.nn p h0).2
    have h2 : p = e := h.inj p e h1 (by rw [h.r0]; omega)
    subst h2
    have := g.domRoot d hd
    subst this
    exact ⟨.refl h0, fun q hq _ => by rw [h.anc_e hq]; exact hd⟩
  | succ n ih =>
    intro p hp h0 hd
    by_cases e1 : d = p
    · subst e1
      refine ⟨.refl h0, fun q hq hr => ?_⟩
      have h1 := h.anc_le hq
      rw [h1.2 (by omega)]
      exact hd
    · by_cases e2 : p = e
      · subst e2; exact absurd (g.domRoot d hd) e1
      · obtain ⟨h1, h2⟩ := h.down p h0 e2
        have h3 := (h.nn _ h1).2
        obtain ⟨i1, i2⟩ := ih (T p) (by omega) h1 (hD p d e2 h0 hd e1)
        refine ⟨.step h0 (h.self h0 e2) i1, fun q hq hr => ?_⟩
        by_cases e3 : q = p
        · rw [e3]; exact hd
        · exact i2 q (hq.up e3).2 hr
section
variable {r : Int → Int} {e : Int} {E : Int → Int → Prop} {Dom : Int → Int → Prop} (g : Gd r e E Dom)
include g
/-- A forward predecessor that is set, and what follows for the deepest common ancestor. -/
theorem nca_fwd {T : Int → Int} (h : WF r e T) {x w : Int} (hx : 0 ≤ r x) (hxe : x ≠ e) (hall : ∀ u, 0 ≤ r u → r u < r x → 0 ≤ T u) (hw : Nca r E T x w) : ∃ u, E u x ∧ 0 ≤ r u ∧ r u < r x ∧ Anc T w u ∧ r w < r x := by
  obtain ⟨u, h1, h2, h3⟩ := g.fwd x hx hxe
  have h4 := hw.all u h1 h2 (hall u h2 h3)
  have := (h.anc_le h4).1
  exact ⟨u, h1, h2, h3, h4, by omega⟩
theorem dom_step {T : Int → Int} (h : WF r e T) (hD : domOk e Dom T) {x w : Int} (hx : 0 ≤ r x) (hxe : x ≠ e) (hall : ∀ u, 0 ≤ r u → r u < r x → 0 ≤ T u) (hw : Nca r E T x w) : domOk e Dom (put T x w) := by
  intro y d hye hy hd hdy
  by_cases e1 : y = x
  · subst e1
    rw [put_at]
    obtain ⟨u, h1, h2, h3, h4, h5⟩ := nca_fwd g h hx hxe hall hw
    have hc : Anc T d w := hw.max d fun p a b c => (chainD g h hD _ p (Nat.le_refl _) c (g.domE d p y hd hdy a b)).1
    exact (chainD g h hD _ u (Nat.le_refl _) (hall u h2 h3) (g.domE d u y hd hdy h1 h2)).2 w h4 (h.anc_le hc).1
  · rw [put_ne _ e1] at hy ⊢
    exact hD y d hye hy hd hdy

/-- The parents between two passes. -/
structure Full (r : Int → Int) (e : Int) (E : Int → Int → Prop) (Dom : Int → Int → Prop) (T : Int → Int) : Prop where
  wf : WF r e T
  all : ∀ x, 0 ≤ r x → 0 ≤ T x
  B : ∀ x u, x ≠ e → 0 ≤ r x → E u x → 0 ≤ r u → r u < r x → Anc T (T x) u
  C : ∀ x, x ≠ e → 0 ≤ r x → ∀ v, (∀ p, E p x → 0 ≤ r p → 0 ≤ T p → Anc T v p) → r v ≤ r (T x)
  D : domOk e Dom T
/-- The parents M inside a pass, up to rank i. s: the parents with which the pass began; none in the first pass. -/
structure Mid (r : Int → Int) (e : Int) (E : Int → Int → Prop) (Dom : Int → Int → Prop) (s : Option (Int → Int)) (M : Int → Int) (i : Int) : Prop where
  wf : WF r e M
  one : s = none → ∀ x, 0 ≤ r x → (0 ≤ M x ↔ r x < i)
  full : ∀ T, s = some T → Full r e E Dom T ∧ (∀ x, i ≤ r x → M x = T x) ∧ (∀ x, 0 ≤ r x → 0 ≤ M x) ∧ (∀ u v, Anc M v u → Anc T v u) ∧
    ∀ u z v, r u < i → Anc T z u → Anc M v u → r v ≤ r z → Anc M v z
  B : ∀ x u, x ≠ e → 0 ≤ r x → r x < i → E u x → 0 ≤ r u → r u < r x → Anc M (M x) u
  C : ∀ x, x ≠ e → 0 ≤ r x → r x < i → ∀ v, (∀ p, E p x → 0 ≤ r p → 0 ≤ M p → Anc M v p) → r v ≤ r (M x)
  D : domOk e Dom M
theorem Mid.set {s : Option (Int → Int)} {M : Int → Int} {i : Int} (h : Mid r e E Dom s M i) {u : Int} (h0 : 0 ≤ r u) (hi : r u < i) : 0 ≤ M u := by
  cases s with
  | none => exact (h.one rfl u h0).2 hi
  | some T => exact (h.full T rfl).2.2.1 u h0
theorem Full.begin {T : Int → Int} (h : Full r e E Dom T) : Mid r e E Dom (some T) T 1 := by
  have h1 : ∀ x, 0 ≤ r x → r x < 1 → x = e := fun x h0 h1 => h.wf.inj x e h0 (by rw [h.wf.r0]; omega)
  refine ⟨h.wf, (fun h2 => by cases h2), fun T2 e2 => ?_, fun x u a b c => absurd (h1 x b c) a, fun x a b c => absurd (h1 x b c) a, h.D⟩
  injection e2 with e2
  subst e2
  refine ⟨h, fun _ _ => rfl, h.all, fun _ _ h => h, fun u z v hu hz hv hr => ?_⟩
  have hu' : u = e := h1 u (h.wf.nn u hz.right).2 hu
  subst hu'
  rw [h.wf.anc_e hz, h.wf.anc_e hv]
  exact .refl hz.right
theorem Mid.finish {s : Option (Int → Int)} {M : Int → Int} {i : Int} (h : Mid r e E Dom s M i) (hi : ∀ x, r x < i) : Full r e E Dom M :=
  ⟨h.wf, fun x hx => h.set g hx (hi x), fun x u a b => h.B x u a b (hi x), fun x a b => h.C x a b (hi x), h.D⟩
theorem Mid.step {s : Option (Int → Int)} {M : Int → Int} {i : Int} (h : Mid r e E Dom s M i) {x w : Int} (hx : r x = i) (hi : 0 < i) (hw : Nca r E M x w) :
    Mid r e E Dom s (put M x w) (i + 1) ∧ r w < i ∧ (0 ≤ M x → w ≠ M x → r w < r (M x)) := by
  have hxe : x ≠ e := fun e1 => by rw [e1, h.wf.r0] at hx; omega
  have hx0 : 0 ≤ r x := by omega
  have hset : ∀ u, 0 ≤ r u → r u < r x → 0 ≤ M u := fun u a b => h.set g a (by omega)
  obtain ⟨u0, f1, f2, f3, f4, f5⟩ := nca_fwd g h.wf hx0 hxe hset hw
  have hwf := h.wf.put hxe (g.nn x hx0) hx0 hw.pr f5
  have hD := dom_step g h.wf h.D hx0 hxe hset hw
  have hsame : ∀ u v, r u < i → (Anc (put M x w) v u ↔ Anc M v u) := fun u v hu => h.wf.same (by omega) v
  have hnx : ∀ u, r u < i → u ≠ x := fun u hu e1 => by rw [e1] at hu; omega
  -- x's own new way up
  have hB : ∀ y u, y ≠ e → 0 ≤ r y → r y < i + 1 → E u y → 0 ≤ r u → r u < r y → Anc (put M x w) (put M x w y) u := by
    intro y u a b c d e1 f
    by_cases e2 : y = x
    · subst e2
      rw [put_at, hsame u _ (by omega)]
      exact hw.all u d e1 (hset u e1 f)
    · have hy : r y < i := by
        by_cases e3 : r y = i
        · exact absurd (h.wf.inj y x b (by omega)) e2
        · omega
      rw [put_ne _ e2, hsame u _ (by omega)]
      exact h.B y u a b hy d e1 f
  cases s with
  | none =>
    have hun : ¬ 0 ≤ M x := fun h1 => by have := (h.one rfl x hx0).1 h1; omega
    refine ⟨⟨hwf, fun _ y hy => ?_, (fun T e2 => by cases e2), hB, fun y a b c v hv => ?_, hD⟩, by omega, fun h1 => absurd h1 hun⟩
    · by_cases e2 : y = x
      · subst e2; rw [put_at]; have := (h.wf.nn w hw.pr).1; omega
      · rw [put_ne _ e2, h.one rfl y hy]
        constructor
        · intro h1; omega
        · intro h1
          by_cases e3 : r y = i
          · exact absurd (h.wf.inj y x hy (by omega)) e2
          · omega
    · -- of all predecessors: the forward ones are enough
      by_cases e2 : y = x
      · subst e2
        rw [put_at]
        refine (h.wf.anc_le (hw.max v fun p a1 b1 c1 => ?_)).1
        have hp : r p < i := (h.one rfl p b1).1 c1
        exact (hsame p v hp).1 (hv p a1 b1 (by rw [put_ne _ (hnx p hp)]; exact c1))
      · have hy : r y < i := by
          by_cases e3 : r y = i
          · exact absurd (h.wf.inj y x b (by omega)) e2
          · omega
        rw [put_ne _ e2]
        refine h.C y a b hy v fun p a1 b1 c1 => ?_
        have hp : r p < i := (h.one rfl p b1).1 c1
        exact (hsame p v hp).1 (hv p a1 b1 (by rw [put_ne _ (hnx p hp)]; exact c1))
  | some T =>
    obtain ⟨hF, hun, hall, hS, hJ⟩ := h.full T rfl
    have hMx : M x = T x := hun x (by omega)
    have hpx := hall x hx0
    -- w lies on the way up from x's parent
    have hrw : r w ≤ r (T x) := by
      refine hF.C x hxe hx0 w fun p a b c => hS p w (hw.all p a b (hall p b))
    have hanc : Anc M w (M x) := by
      rw [hMx]
      exact hJ u0 (T x) w (by omega) (hF.B x u0 hxe hx0 f1 f2 f3) f4 hrw
    have hsh : ∀ u v, Anc (put M x w) v u → Anc M v u := fun u v ha => h.wf.shrink hxe hpx hanc ha
    refine ⟨⟨hwf, (fun e2 => by cases e2), fun T2 e2 => ?_, hB, fun y a b c v hv => ?_, hD⟩, by omega, fun _ hne => ?_⟩
    · injection e2 with e2
      subst e2
      refine ⟨hF, fun y hy => ?_, fun y hy => ?_, fun u v ha => hS u v (hsh u v ha), fun u z v hu hz hv hr => ?_⟩
      · rw [put_ne _ (fun e2 => by rw [e2] at hy; omega)]; exact hun y (by omega)
      · by_cases e2 : y = x
        · subst e2; rw [put_at]; exact (h.wf.nn w hw.pr).1
        · rw [put_ne _ e2]; exact hall y hy
      · by_cases e2 : u = x
        · subst e2
          by_cases e3 : z = u
          · subst e3; exact hv
          · have hz2 := (hz.up e3).2
            have hzr := (hF.wf.anc_le hz2).1
            have hdn := (hF.wf.down u hz.right hxe).2
            have hvu : v ≠ u := fun e4 => by rw [e4] at hr; omega
            have hv2 := (hv.up hvu).2
            rw [put_at] at hv2
            have hv3 := (hsame w v (by omega)).1 hv2
            rw [hMx] at hanc
            have := hJ (T u) z v (by omega) hz2 (hv3.trans hanc) hr
            exact (hsame z v (by omega)).2 this
        · have hu2 : r u < i := by
            by_cases e3 : r u = i
            · exact absurd (h.wf.inj u x (hwf.nn u hv.right).2 (by omega)) e2
            · omega
          have h1 := hJ u z v hu2 hz ((hsame u v hu2).1 hv) hr
          have hz3 := (hF.wf.anc_le hz).1
          exact (hsame z v (by omega)).2 h1
    · by_cases e2 : y = x
      · subst e2
        rw [put_at]
        refine (h.wf.anc_le (hw.max v fun p a1 b1 c1 => hsh p v (hv p a1 b1 ?_))).1
        by_cases e3 : p = y
        · subst e3; rw [put_at]; exact (h.wf.nn w hw.pr).1
        · rw [put_ne _ e3]; exact c1
      · have hy : r y < i := by
          by_cases e3 : r y = i
          · exact absurd (h.wf.inj y x b (by omega)) e2
          · omega
        rw [put_ne _ e2]
        refine h.C y a b hy v fun p a1 b1 c1 => hsh p v (hv p a1 b1 ?_)
        by_cases e3 : p = x
        · subst e3; rw [put_at]; exact (h.wf.nn w hw.pr).1
        · rw [put_ne _ e3]; exact c1
    · have h1 := h.wf.anc_le hanc
      by_cases e3 : r w = r (M x)
      · exact absurd (h1.2 e3) hne
      · omega
/-- Parents that no pass changes: what is found on the way up is met on every way from the root. -/
theorem Full.dom {T : Int → Int} (h : Full r e E Dom T) {v x : Int} (hx : 0 ≤ r x) (hd : Dom v x) : Anc T v x := (chainD g h.wf h.D _ x (Nat.le_refl _) (h.all x hx) hd).1
theorem Full.not_dom {T : Int → Int} (h : Full r e E Dom T) (hfix : ∀ x, x ≠ e → 0 ≤ r x → Nca r E T x (T x)) {v p x : Int} (hp : 0 ≤ r p) (hx : 0 ≤ r x) (hE : E p x) (hv : v ≠ x) (ha : Anc T v x) : Anc T v p := by
  have hxe : x ≠ e := fun e1 => by subst e1; exact hv (h.wf.anc_e ha)
  exact ((ha.up hv).2).trans ((hfix x hxe hx).all p hE hp (h.all p hp))
end
end Go.Proofs.Ytbphjbfnnhfhlaa.Dm
end

