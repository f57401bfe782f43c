/- digraph.Postorder. -/
import Derived.Test.YtjkclhpibielfaaFrA
set_option linter.unusedVariables false
set_option linter.unusedSimpArgs false
namespace Go.Proofs.Ytjkclhpibielfaa
open Go.RowKit Go.Proofs.YtjkclhpibielfaaW.PrintWords Go.Proofs.Ytjkclhpibielfaa.PDigraphTells Mem

abbrev kG : Kd (List Int) := Kd.slice 3 (Kd.int .i64)
theorem check_any (A : Option Addr) (c : Nat) (G : List (List Int)) (w : World) (hC : Kd.C kG w A G.length G) (hc : G.length ≤ c) (hs : short G) (r : Int) (hr : chk G = r) :
    Calls Try.prog 7 #[.agg #[.slice A G.length c]] w fun e w' => e = .returned (.int .i64 r) ∧ Below w.heap.size w w' := by
  subst hr
  obtain ⟨k, hk⟩ := (chk_f G hs).get
  exact digraph_Check.calls k A c G _ w hC hc hk
theorem has_any1 (A : Option Addr) (c : Nat) (G : List (List Int)) (B : Option Addr) (c2 : Nat) (ns : List Int) (w : World) (hC : Kd.C kG w A G.length G) (hc : G.length ≤ c) (hB : Kd.C (Kd.int .i64) w B ns.length ns) (hc2 : ns.length ≤ c2) (hs : short G) (hn : ns.length < 1000) (b : Bool) (hb : hasG G ns = b) :
    Calls Try.prog 28 #[.agg #[.slice A G.length c], .slice B ns.length c2] w fun e w' => e = .returned (.bool b) ∧ Below w.heap.size w w' := by
  subst hb
  obtain ⟨k, hk⟩ := (has_f G hs ns hn).get
  exact digraph_has.calls k A c G B c2 ns _ w hC hc hB hc2 hk
theorem C_new (w : World) (xs : List Int) (hm : xs.length ≤ 9223372036854775807) (cs : Array Value) (hcs : cs = (xs.map (Value.int .i64)).toArray) : Kd.C (Kd.int .i64) (w.alloc (.cells cs 3)) (some ⟨w.heap.size, 0, none⟩) xs.length xs := by
  subst hcs
  refine Kd.C_of_reads (d := (0 : Int)) ⟨rfl, hm, fun _ => ⟨_, rfl, fun j hj => ?_⟩⟩
  rw [add0]
  refine cell_at (heap_alloc_new w _) ?_
  simp [List.getD_eq_getElem?_getD, hj]

/-- What holds in Postorder ahead of a round: the stack's variable lies at p, the graph's at gb. -/
structure SI (G : List (List Int)) (A : Option Addr) (c : Nat) (w wr : World) (p gb : Nat) (Q : Nat → Prop) (v : Option Addr) (bs : List Bool) (vs : Value) (xs : List (Int × Nat)) (vo : Value) (out : List Int) : Prop where
  ex : ∃ P O : Nat → Prop, (∀ k, P k → (w.heap.size ≤ k ∧ k < wr.heap.size) ∧ k ≠ p ∧ k ≠ gb ∧ ¬ Q k ∧ ¬ O k) ∧ (∀ k, O k → (w.heap.size ≤ k ∧ k < wr.heap.size) ∧ k ≠ p ∧ k ≠ gb ∧ ¬ Q k) ∧ Kd.R kF 47 wr 0 P vs xs ∧ Kd.R (Kd.int .i64) 3 wr 0 O vo out
  q : ∀ k, Q k → (w.heap.size ≤ k ∧ k < wr.heap.size) ∧ k ≠ p ∧ k ≠ gb
  set_ : PS wr Q v (some bs)
  cell : wr.heap[p]? = some (.cells #[vs] 48 (0, 0))
  gcell : wr.heap[gb]? = some (.cells #[.slice A G.length c] 24 (0, 0))
  wp : w.heap.size ≤ p ∧ w.heap.size ≤ gb ∧ p ≠ gb
  below : Below w.heap.size w wr
  len : bs.length = G.length
section
variable {G : List (List Int)} {A : Option Addr} {c : Nat} {w wr W : World} {p gb : Nat} {Q : Nat → Prop} {v : Option Addr} {bs : List Bool} {vs vo : Value} {xs : List (Int × Nat)} {out : List Int}
theorem SI.step (h : SI G A c w wr p gb Q v bs vs xs vo out) (hb : Below wr.heap.size wr W) : SI G A c w W p gb Q v bs vs xs vo out := by
  obtain ⟨P, O, hP, hO, hR, hR2⟩ := h.ex
  have hs := hb.size
  exact ⟨⟨P, O, fun k hk => ⟨⟨(hP k hk).1.1, by have := (hP k hk).1.2; omega⟩, (hP k hk).2⟩, fun k hk => ⟨⟨(hO k hk).1.1, by have := (hO k hk).1.2; omega⟩, (hO k hk).2⟩, Kd.R_step hR (fun k _ hk => hb.block k hk), Kd.R_step hR2 (fun k _ hk => hb.block k hk)⟩,
    fun k hk => ⟨⟨(h.q k hk).1.1, by have := (h.q k hk).1.2; omega⟩, (h.q k hk).2⟩, h.set_.step (fun k _ hk => hb.block k hk), (hb.block p (blk_lt' h.cell)).trans h.cell, (hb.block gb (blk_lt' h.gcell)).trans h.gcell, h.wp, h.below.trans (hb.mono h.below.size), h.len⟩
theorem SI.top {g cc : Nat} (h : SI G A c w wr p gb Q v bs (.slice (some ⟨g, 0, none⟩) xs.length cc) xs vo out) (i : Nat) (hi : i < xs.length) :
    wr.cell? ⟨g, i * 2, none⟩ = some (.int .i64 (xs[i]).1) ∧ wr.cell? ⟨g, i * 2 + 1, none⟩ = some (.int .i64 ((xs[i]).2 : Int)) ∧ wr.frozen? ⟨g, i * 2, none⟩ = false ∧ wr.frozen? ⟨g, i * 2 + 1, none⟩ = false := by
  obtain ⟨P, O, hP, hO, hR, hR2⟩ := h.ex
  exact R_atF hR i hi
theorem SI.next {g cc : Nat} (h : SI G A c w wr p gb Q v bs (.slice (some ⟨g, 0, none⟩) xs.length cc) xs vo out) (i : Nat) (hi : i < xs.length) (t : Nat) :
    SI G A c w (wr.setCell ⟨g, i * 2 + 1, none⟩ (.int .i64 (t : Int))) p gb Q v bs (.slice (some ⟨g, 0, none⟩) xs.length cc) (xs.set i (xs[i].1, t)) vo out := by
  obtain ⟨P, O, hP, hO, hR, hR2⟩ := h.ex
  obtain ⟨h1, h2⟩ := R_nextF hR i hi t
  have hs := h2.size
  exact ⟨⟨P, O, fun k hk => ⟨⟨(hP k hk).1.1, by have := (hP k hk).1.2; omega⟩, (hP k hk).2⟩, fun k hk => ⟨⟨(hO k hk).1.1, by have := (hO k hk).1.2; omega⟩, (hO k hk).2⟩, h1, Kd.R_step hR2 (fun k hk hlt => h2.block hlt (fun h3 => (hP k h3).2.2.2.2 hk))⟩,
    fun k hk => ⟨⟨(h.q k hk).1.1, by have := (h.q k hk).1.2; omega⟩, (h.q k hk).2⟩, h.set_.step (fun k hk hlt => h2.block hlt (fun h3 => (hP k h3).2.2.2.1 hk)), h2.blk h.cell (fun h3 => (hP p h3).2.1 rfl), h2.blk h.gcell (fun h3 => (hP gb h3).2.2.1 rfl), h.wp, h.below.trans (h2.belowB (fun k hk => (hP k hk).1.1) h.below.size), h.len⟩
theorem SI.add {bs' : List Bool} (h : SI G A c w wr p gb Q v bs vs xs vo out) (hp : PS W Q v (some bs')) (hk : Kp Q wr W) (hl : bs'.length = bs.length) : SI G A c w W p gb Q v bs' vs xs vo out := by
  obtain ⟨P, O, hP, hO, hR, hR2⟩ := h.ex
  have hs := hk.size
  exact ⟨⟨P, O, fun k hk => ⟨⟨(hP k hk).1.1, by have := (hP k hk).1.2; omega⟩, (hP k hk).2⟩, fun k hk => ⟨⟨(hO k hk).1.1, by have := (hO k hk).1.2; omega⟩, (hO k hk).2⟩, Kd.R_step hR (fun k h1 hlt => hk.block hlt (hP k h1).2.2.2.1), Kd.R_step hR2 (fun k h1 hlt => hk.block hlt (hO k h1).2.2.2)⟩,
    fun k hk => ⟨⟨(h.q k hk).1.1, by have := (h.q k hk).1.2; omega⟩, (h.q k hk).2⟩, hp, hk.blk h.cell (fun h3 => (h.q p h3).2.1 rfl), hk.blk h.gcell (fun h3 => (h.q gb h3).2.2 rfl), h.wp, h.below.trans (hk.belowB (fun k hk => (h.q k hk).1.1) h.below.size), by rw [hl]; exact h.len⟩
theorem SI.push {P : Nat → Prop} {O : Nat → Prop} {vs' : Value} {xs' : List (Int × Nat)} (h : SI G A c w wr p gb Q v bs vs xs vo out) (hP : ∀ k, P k → (w.heap.size ≤ k ∧ k < wr.heap.size) ∧ k ≠ p ∧ k ≠ gb ∧ ¬ Q k ∧ ¬ O k) (hO : ∀ k, O k → (w.heap.size ≤ k ∧ k < wr.heap.size) ∧ k ≠ p ∧ k ≠ gb ∧ ¬ Q k) (hR2 : Kd.R (Kd.int .i64) 3 wr 0 O vo out)
    (hc : W.heap[p]? = some (.cells #[vs'] 48 (0, 0))) (hR : Kd.R kF 47 W 0 (fun k => (P k ∨ wr.heap.size ≤ k) ∧ k ≠ p) vs' xs') (hk : Kp (fun k => P k ∨ k = p) wr W) : SI G A c w W p gb Q v bs vs' xs' vo out := by
  have hs := hk.size
  have h0 := h.below.size
  have hgl := blk_lt' h.gcell
  refine ⟨⟨fun k => ((P k ∨ wr.heap.size ≤ k) ∧ k ≠ p) ∧ k < W.heap.size, O, fun k hk => ⟨⟨?_, hk.2⟩, hk.1.2, ?_, ?_, ?_⟩, fun k hk => ⟨⟨(hO k hk).1.1, by have := (hO k hk).1.2; omega⟩, (hO k hk).2⟩, Kd.R_mono (Kd.R_bound hR) (fun k hk => ⟨hk.1, hk.2.2.1⟩), Kd.R_step hR2 (fun k h1 hlt => hk.block hlt (fun h2 => ?_))⟩,
    fun k hk => ⟨⟨(h.q k hk).1.1, by have := (h.q k hk).1.2; omega⟩, (h.q k hk).2⟩, h.set_.step (fun k h1 hlt => hk.block hlt (fun h2 => ?_)), hc, hk.blk h.gcell (fun h2 => ?_), h.wp, h.below.trans (hk.belowB (fun k hk => ?_) h.below.size), h.len⟩
  · rcases hk.1.1 with h1 | h1
    · exact (hP k h1).1.1
    · omega
  · rcases hk.1.1 with h1 | h1
    · exact (hP k h1).2.2.1
    · omega
  · rcases hk.1.1 with h1 | h1
    · exact (hP k h1).2.2.2.1
    · intro h2; have := (h.q k h2).1.2; omega
  · rcases hk.1.1 with h1 | h1
    · exact (hP k h1).2.2.2.2
    · intro h2; have := (hO k h2).1.2; omega
  · rcases h2 with h2 | h2
    · exact (hP k h2).2.2.2.2 h1
    · exact (hO k h1).2.1 h2
  · rcases h2 with h2 | h2
    · exact (hP k h2).2.2.2.1 h1
    · exact (h.q k h1).2.1 h2
  · rcases h2 with h2 | h2
    · exact (hP gb h2).2.2.1 rfl
    · exact h.wp.2.2 h2.symm
  · rcases hk with h1 | h1
    · exact (hP k h1).1.1
    · rw [h1]; exact h.wp.1
theorem SI.pop {g cc n : Nat} (h : SI G A c w wr p gb Q v bs (.slice (some ⟨g, 0, none⟩) xs.length cc) xs vo out) (hn : n ≤ xs.length) :
    SI G A c w (wr.setCell ⟨p, 0, none⟩ (.slice (some ⟨g, 0, none⟩) n cc)) p gb Q v bs (.slice (some ⟨g, 0, none⟩) n cc) (xs.take n) vo out := by
  obtain ⟨P, O, hP, hO, hR, hR2⟩ := h.ex
  have hk : Kp (fun k => k = p) wr (wr.setCell ⟨p, 0, none⟩ (.slice (some ⟨g, 0, none⟩) n cc)) := (Kp.refl (fun k => k = p) wr).setCell (p := ⟨p, 0, none⟩) (.inl rfl) _
  have hs := hk.size
  refine ⟨⟨P, O, fun k hk => ⟨⟨(hP k hk).1.1, by have := (hP k hk).1.2; omega⟩, (hP k hk).2⟩, fun k hk => ⟨⟨(hO k hk).1.1, by have := (hO k hk).1.2; omega⟩, (hO k hk).2⟩, Kd.R_step (Kd.R_take hR hn) (fun k h1 hlt => hk.block hlt (hP k h1).2.1), Kd.R_step hR2 (fun k h1 hlt => hk.block hlt (hO k h1).2.1)⟩,
    fun k hk => ⟨⟨(h.q k hk).1.1, by have := (h.q k hk).1.2; omega⟩, (h.q k hk).2⟩, h.set_.step (fun k h1 hlt => hk.block hlt (h.q k h1).2.1), ?_, hk.blk h.gcell (fun h2 => h.wp.2.2 h2.symm), h.wp, h.below.trans (hk.belowB (fun k hk => by rw [hk]; exact h.wp.1) h.below.size), h.len⟩
  have := set_at (j := 0) h.cell (.slice (some ⟨g, 0, none⟩) n cc)
  simpa using this
end

theorem own_oneF (W : World) (x : Int × Nat) : Kd.R kF 47 (W.alloc (.cells #[.int .i64 x.1, .int .i64 (x.2 : Int)] 47)) 0 (fun k => k = W.heap.size) (.slice (some ⟨W.heap.size, 0, none⟩) 1 1) [x] := by
  refine ⟨fun k hk => ?_, [.int .i64 x.1, .int .i64 (x.2 : Int)], ?_, ⟨rfl, fun j p hj => ?_⟩⟩
  · have : W.heap.size = k := by simpa [Value.ownBlock] using hk
    exact this.symm
  · have h := World.ownsRow_lit (base := 0) (e := 47) (size := 2) W #[.int .i64 x.1, .int .i64 (x.2 : Int)] 1 (Nat.zero_le _) (by unfold maxLen; omega) (by simp)
    exact h
  · rcases j with _ | j
    · simp at hj
      subst hj
      exact kF_mkM _ _ _ x
    · simp at hj
theorem getLast_app {α : Type} (l : List α) (x : α) (h : l.length < (l ++ [x]).length) : (l ++ [x])[l.length]'h = x := by simp
theorem set_last {α : Type} (l : List α) (x y : α) : (l ++ [x]).set l.length y = l ++ [y] := by simp
theorem take_last {α : Type} (l : List α) (x : α) : (l ++ [x]).take l.length = l := by simp
theorem SI.top2 {G : List (List Int)} {A : Option Addr} {c : Nat} {w wr : World} {p gb : Nat} {Q : Nat → Prop} {v : Option Addr} {bs : List Bool} {vo : Value} {ys : List (Int × Nat)} {x : Int × Nat} {out : List Int} {g cc L : Nat} (h : SI G A c w wr p gb Q v bs (.slice (some ⟨g, 0, none⟩) (L + 1) cc) (ys ++ [x]) vo out) (hL : ys.length = L) :
    wr.cell? ⟨g, L * 2, none⟩ = some (.int .i64 x.1) ∧ wr.cell? ⟨g, L * 2 + 1, none⟩ = some (.int .i64 (x.2 : Int)) ∧ wr.frozen? ⟨g, L * 2, none⟩ = false ∧ wr.frozen? ⟨g, L * 2 + 1, none⟩ = false := by
  subst hL
  have hl : (ys ++ [x]).length = ys.length + 1 := by simp
  rw [← hl] at h
  have := h.top ys.length (by omega)
  rw [getLast_app] at this
  exact this
theorem SI.next2 {G : List (List Int)} {A : Option Addr} {c : Nat} {w wr : World} {p gb : Nat} {Q : Nat → Prop} {v : Option Addr} {bs : List Bool} {vo : Value} {ys : List (Int × Nat)} {n : Int} {i : Nat} {out : List Int} {g cc L : Nat} (h : SI G A c w wr p gb Q v bs (.slice (some ⟨g, 0, none⟩) (L + 1) cc) (ys ++ [(n, i)]) vo out) (hL : ys.length = L) (t : Nat) :
    SI G A c w (wr.setCell ⟨g, L * 2 + 1, none⟩ (.int .i64 (t : Int))) p gb Q v bs (.slice (some ⟨g, 0, none⟩) (L + 1) cc) (ys ++ [(n, t)]) vo out := by
  subst hL
  have hl : (ys ++ [(n, i)]).length = ys.length + 1 := by simp
  rw [← hl] at h
  have := h.next ys.length (by omega) t
  rw [getLast_app, set_last, hl] at this
  exact this
theorem SI.pop2 {G : List (List Int)} {A : Option Addr} {c : Nat} {w wr : World} {p gb : Nat} {Q : Nat → Prop} {v : Option Addr} {bs : List Bool} {vo : Value} {ys : List (Int × Nat)} {x : Int × Nat} {out : List Int} {g cc L : Nat} (h : SI G A c w wr p gb Q v bs (.slice (some ⟨g, 0, none⟩) (L + 1) cc) (ys ++ [x]) vo out) (hL : ys.length = L) :
    SI G A c w (wr.setCell ⟨p, 0, none⟩ (.slice (some ⟨g, 0, none⟩) L cc)) p gb Q v bs (.slice (some ⟨g, 0, none⟩) L cc) ys vo out := by
  subst hL
  have hl : (ys ++ [x]).length = ys.length + 1 := by simp
  rw [← hl] at h
  have := h.pop (n := ys.length) (by omega)
  rw [take_last] at this
  exact this
theorem SI.form {G : List (List Int)} {A : Option Addr} {c : Nat} {w wr : World} {p gb : Nat} {Q : Nat → Prop} {v : Option Addr} {bs : List Bool} {vs vo : Value} {xs : List (Int × Nat)} {out : List Int} (h : SI G A c w wr p gb Q v bs vs xs vo out) (hp : 0 < xs.length) : ∃ g cc, vs = .slice (some ⟨g, 0, none⟩) xs.length cc ∧ xs.length ≤ cc := by
  obtain ⟨P, O, hP, hO, hR, hR2⟩ := h.ex
  obtain ⟨g, cc, e, _⟩ := Kd.R_form hR hp
  obtain ⟨A1, c1, e1, hle, _⟩ := Kd.R_reads hR
  rw [e] at e1
  injection e1 with _ _ e2
  exact ⟨g, cc, e, by omega⟩
theorem setO_in (bs : List Bool) (s : Int) (h0 : 0 ≤ s) : setO (some bs) s true = some (bs.set s.toNat true) := by simp [setO, h0]
theorem addB_in (bs : List Bool) (s : Int) (h0 : 0 ≤ s) (h : s < bs.length) : addB (some bs) s = !metOf bs s := by
  unfold addB inO hasO metOf
  simp [h0, h]
theorem set_met {bs : List Bool} {s : Int} (h : metOf bs s = true) : bs.set s.toNat true = bs := set_same bs s.toNat true (.inr (by unfold metOf at h; simp at h; simpa using h.2))
theorem SI.enter {G : List (List Int)} {A : Option Addr} {c : Nat} {w wr : World} {p gb : Nat} {Q : Nat → Prop} {v : Option Addr} {bs : List Bool} {vo : Value} {xs : List (Int × Nat)} {out : List Int} {Av : Option Addr} {N cc : Nat} (h : SI G A c w wr p gb Q v bs (.slice Av N cc) xs vo out) (hN : xs.length = N) (hm : N ≤ 1000000) (s : Int) :
    Calls Try.prog 31 #[.int .i64 s, .pointer (some ⟨p, 0, none⟩)] wr fun e w' => e = .returned (.tuple #[]) ∧ ∃ A' c', SI G A c w w' p gb Q v bs (.slice A' (N + 1) c') (xs ++ [(s, 0)]) vo out := by
  subst hN
  obtain ⟨P, O, hP, hO, hR, hR2⟩ := h.ex
  refine (enter_any s p Av cc xs P wr h.cell hR (fun h3 => (hP p h3).2.1 rfl) hm).mono ?_
  rintro e w' ⟨rfl, A', c', h1, h2, h3⟩
  have hl : (xs ++ [(s, 0)]).length = xs.length + 1 := by simp
  rw [hl] at h1 h2
  exact ⟨rfl, A', c', h.push hP hO hR2 h1 h2 h3⟩
theorem SI.app {G : List (List Int)} {A : Option Addr} {c : Nat} {w W wa : World} {p gb : Nat} {Q P O : Nat → Prop} {v : Option Addr} {bs : List Bool} {vs vo v1 : Value} {xs : List (Int × Nat)} {out out' : List Int} (h : SI G A c w W p gb Q v bs vs xs vo out)
    (hP : ∀ k, P k → (w.heap.size ≤ k ∧ k < W.heap.size) ∧ k ≠ p ∧ k ≠ gb ∧ ¬ Q k ∧ ¬ O k) (hO : ∀ k, O k → (w.heap.size ≤ k ∧ k < W.heap.size) ∧ k ≠ p ∧ k ≠ gb ∧ ¬ Q k) (hR : Kd.R kF 47 W 0 P vs xs) (hR2 : Kd.R (Kd.int .i64) 3 W 0 O vo out)
    (hRA : Kd.R (Kd.int .i64) 3 wa 0 (fun k => O k ∨ W.heap.size ≤ k) v1 out') (hg : W.grownBy wa vo.ownBlock) : SI G A c w wa p gb Q v bs vs xs v1 out' := by
  have hk : Kp O W wa := (Kp.refl O W).grown hg (fun k hk => .inl (hR2.1 k hk))
  have hs := hk.size
  have h0 := h.below.size
  have hpl := blk_lt' h.cell
  have hgl := blk_lt' h.gcell
  refine ⟨⟨P, fun k => (O k ∨ W.heap.size ≤ k) ∧ k < wa.heap.size, fun k hk1 => ⟨⟨(hP k hk1).1.1, by have := (hP k hk1).1.2; omega⟩, (hP k hk1).2.1, (hP k hk1).2.2.1, (hP k hk1).2.2.2.1, fun h2 => ?_⟩, fun k hk1 => ?_, Kd.R_step hR (fun k h1 hlt => hk.block hlt (hP k h1).2.2.2.2), Kd.R_mono (Kd.R_bound hRA) (fun k hk => ⟨hk.1, hk.2.2.1⟩)⟩,
    fun k hk1 => ⟨⟨(h.q k hk1).1.1, by have := (h.q k hk1).1.2; omega⟩, (h.q k hk1).2⟩, h.set_.step (fun k h1 hlt => hk.block hlt (fun h2 => (hO k h2).2.2.2 h1)), hk.blk h.cell (fun h2 => (hO p h2).2.1 rfl), hk.blk h.gcell (fun h2 => (hO gb h2).2.2.1 rfl), h.wp, h.below.trans (hk.belowB (fun k hk => (hO k hk).1.1) h0), h.len⟩
  · rcases h2.1 with h3 | h3
    · exact (hP k hk1).2.2.2.2 h3
    · have := (hP k hk1).1.2; omega
  · rcases hk1.1 with h3 | h3
    · exact ⟨⟨(hO k h3).1.1, hk1.2⟩, (hO k h3).2⟩
    · exact ⟨⟨by omega, hk1.2⟩, by omega, by omega, fun h4 => by have := (h.q k h4).1.2; omega⟩
theorem ofO_one (G : List (List Int)) (a : Int) (hl : G.length ≤ 65536) (ha : isNode G a) : ∃ bs, ofO (G.length : Int) [a] = some bs ∧ bs.length = G.length ∧ metOf bs = Grf.mark (fun _ => false) a := by
  unfold isNode at ha
  refine ⟨(List.replicate G.length false).set a.toNat true, ?_, by simp, ?_⟩
  · unfold ofO addAll newO
    rw [if_neg (by omega)]
    simp [setO, ha.1]
  · rw [metOf_set _ a ha.1 (by simp; omega), metOf_false]
theorem iter_not {ad : Int → List Int} {st : Grf.St} {mf : Grf.Met} {of_ : List Int} {n : Nat} (h : Grf.iter ad n st = ([], mf, of_)) (hne : st.1 ≠ []) : ∃ m, n = m + 1 ∧ Grf.iter ad m (Grf.step ad st) = ([], mf, of_) := by
  cases n with
  | zero =>
    have : st = ([], mf, of_) := h
    rw [this] at hne
    exact absurd rfl hne
  | succ m => exact ⟨m, rfl, h⟩

set_option maxRecDepth 100000 in
set_option maxHeartbeats 2000000 in
theorem post_main (A : Option Addr) (c : Nat) (G : List (List Int)) (a : Int) (w : World) (hC : Kd.C kG w A G.length G) (hc : G.length ≤ c) (hs : short G) (hok : chk G = 0 ∧ isNode G a) :
    Calls Try.prog 20 #[.agg #[.slice A G.length c], .int .i64 a] w fun e w' => ∃ vo, e = .returned vo ∧ Kd.R (Kd.int .i64) 3 w' 0 (fun k => w.heap.size ≤ k) vo (post G a) ∧ Below w.heap.size w w' := by
  have hhas : hasG G [a] = true := (hasG_iff G [a]).2 ⟨by simpa using hok.2, hok.1⟩
  have hX := Aside0.mk (And.intro hC (And.intro hc (And.intro hs (And.intro hok hhas))))
  have hl := okG.len hok.1
  clear hC hc hs hok hhas
  go_enter Try.func20, Try.ntmps20
  go_wp2; go_step3
  go_wp2_with fail
  refine (has_any1 A c G (some ⟨w.heap.size + 1, 0, none⟩) 1 [a] _ (Kd.C_alloc (Kd.C_alloc hX.out.1 _) _) hX.out.2.1 ?_ (by simp) hX.out.2.2.1 (by simp) true hX.out.2.2.2.2).mono ?_
  · have := C_new (w.alloc (.cells #[.slice A G.length c] 24)) [a] (by simp) _ rfl
    simpa using this
  rintro e w1 ⟨rfl, B1⟩
  obtain ⟨gb, hgb⟩ : ∃ gb, gb = w.heap.size := ⟨_, rfl⟩
  have hbb : Below w.heap.size w w1 := (below_alloc (below_alloc (Below.refl _ w) _) _).trans (B1.mono (by simp; omega))
  have hg1 : w1.heap[gb]? = some (.cells #[.slice A G.length c] 24 (0, 0)) := by
    rw [hgb]
    refine (B1.block _ (by simp; omega)).trans ?_
    rw [Below.heap_alloc _ _ _ (by simp)]
    exact heap_alloc_new w _
  have c0 : w1.cell? ⟨gb, 0, none⟩ = some (.slice A G.length c) := cell_at hg1 rfl
  have H1 := Aside0.mk (And.intro hbb (And.intro hg1 (show w.heap.size ≤ gb by omega)))
  rw [show Value.pointer (some (⟨w.heap.size, 0, none⟩ : Addr)) = Value.pointer (some ⟨gb, 0, none⟩) by rw [hgb]]
  have hS0 := Aside0.mk hgb
  clear B1 hbb hg1 hgb
  go_wp2_with fail
  refine (of_any (G.length : Int) (some ⟨w1.heap.size, 0, none⟩) 1 [a] _ ?_ (by simp)).mono ?_
  · exact C_new w1 [a] (by simp) _ rfl
  rintro e w2 ⟨v, rfl, hPS, hK2⟩
  go_wp2_with fail
  obtain ⟨bs, hbs, hbl, hbm⟩ := ofO_one G a hl hX.out.2.2.2.1.2
  rw [hbs] at hPS
  obtain ⟨q0, hq0⟩ := Grf.machine (okG.cl hX.out.2.2.2.1.1) G.length a (fun _ => false) [] [] ((mem_nodes G a).2 hX.out.2.2.2.1.2) rfl (by rw [cnt_all]; exact Nat.le_refl _)
  obtain ⟨mf, hmf⟩ : ∃ mf, (Grf.visit (adj G) G.length a (fun _ => false) []).1 = mf := ⟨_, rfl⟩
  have hpost : (Grf.visit (adj G) G.length a (fun _ => false) []).2 = post G a := by unfold post; rw [if_pos hX.out.2.2.2.1]
  rw [hmf, hpost, ← hbm] at hq0
  obtain ⟨p, hp⟩ : ∃ p, p = w2.heap.size + 1 := ⟨_, rfl⟩
  have s2 := hK2.size
  have hB0 := H1.out.1.size
  have hg0 := H1.out.2.2
  have hgl := blk_lt' H1.out.2.1
  have hSI : SI G A c w ((w2.alloc (.cells #[.int .i64 a, .int .i64 0] 47)).alloc (.cells #[.slice (some ⟨w2.heap.size, 0, none⟩) 1 1] 48)) p gb (fun k => w1.heap.size + 1 ≤ k ∧ k < w2.heap.size) v bs (.slice (some ⟨w2.heap.size, 0, none⟩) 1 1) [(a, 0)] (.slice none 0 0) [] := by
    have hs1 : (w1.alloc (.cells #[.int .i64 a] 3)).heap.size = w1.heap.size + 1 := by simp
    rw [hs1] at s2 hPS
    have hKB : Below w1.heap.size w1 w2 := (below_alloc (Below.refl _ _) _).trans (hK2.none_below.mono (by simp))
    refine ⟨⟨fun k => k = w2.heap.size, fun _ => False, fun k hk => ⟨⟨by omega, by simp; omega⟩, by omega, by omega, by omega, fun h => h⟩, fun k hk => hk.elim, Kd.R_alloc (own_oneF w2 (a, 0)) _, Kd.R_nil _ _ _ _ _⟩, fun k hk => ⟨⟨by omega, by simp; omega⟩, by omega, by omega⟩,
      (hPS.bound.mono (fun k hk => hk)).alloc _ |>.alloc _, ?_, ?_, ⟨by omega, by omega, by omega⟩, below_alloc (below_alloc (H1.out.1.trans (hKB.mono hB0)) _) _, hbl⟩
    · rw [hp]
      have := heap_alloc_new (w2.alloc (.cells #[.int .i64 a, .int .i64 0] 47)) (.cells #[.slice (some ⟨w2.heap.size, 0, none⟩) 1 1] 48)
      simpa using this
    · rw [Below.heap_alloc _ _ _ (by simp; omega), Below.heap_alloc _ _ _ (by omega)]
      exact (hKB.block gb hgl).trans H1.out.2.1
  obtain ⟨Q, hQ⟩ : ∃ Q : Nat → Prop, Q = fun k => w1.heap.size + 1 ≤ k ∧ k < w2.heap.size := ⟨_, rfl⟩
  rw [← hQ] at hSI
  have hall : ∀ x ∈ [((a, 0) : Int × Nat)], isNode G x.1 := by simpa using hX.out.2.2.2.1.2
  have hI0 : Aside0 (SI G A c w ((w2.alloc (.cells #[.int .i64 a, .int .i64 0] 47)).alloc (.cells #[.slice (some ⟨w2.heap.size, 0, none⟩) 1 1] 48)) p gb Q v bs (.slice (some ⟨w2.heap.size, 0, none⟩) ([((a, 0) : Int × Nat)].reverse).length 1) ([((a, 0) : Int × Nat)].reverse) (.slice none 0 0) [] ∧ Grf.iter (adj G) (q0 + 1) ([((a, 0) : Int × Nat)], metOf bs, []) = ([], mf, post G a) ∧ (∀ x ∈ [((a, 0) : Int × Nat)], isNode G x.1) ∧ [((a, 0) : Int × Nat)].length + ([] : List Int).length + Grf.cnt (nodes G) (metOf bs) ≤ G.length) := ⟨hSI, hq0, hall, by have := Grf.cnt_mark (m := fun _ => false) ((mem_nodes G a).2 hX.out.2.2.2.1.2) rfl; rw [cnt_all] at this; rw [hbm]; simp; omega⟩
  rw [show Value.pointer (some (⟨w2.heap.size + 1, 0, none⟩ : Addr)) = Value.pointer (some ⟨p, 0, none⟩) by rw [hp]]
  clear hSI hq0 hall hPS hK2 H1 hS0 hbs hbl hbm hmf hpost hp s2 hB0 hg0 hgl hQ c0
  go_wp2; go_step3
  go_wp2
  go_loopg [5] (q0 + 1) (fun n vo wi => ∃ (S : List (Int × Nat)) (out : List Int) (bs : List Bool) (As : Option Addr) (cs : Nat) (Ao : Option Addr) (co : Nat), vo = .slice Ao out.length co ∧ Aside0 (SI G A c w wi p gb Q v bs (.slice As S.length cs) S.reverse (.slice Ao out.length co) out ∧ Grf.iter (adj G) n (S, metOf bs, out) = ([], mf, post G a) ∧ (∀ x ∈ S, isNode G x.1) ∧ S.length + out.length + Grf.cnt (nodes G) (metOf bs) ≤ G.length))
  case atStart => exact ⟨[(a, 0)], [], bs, some ⟨w2.heap.size, 0, none⟩, 1, none, 0, rfl, hI0⟩
  case round =>
    obtain ⟨S, out, bs', As, cs, Ao, co, rfl, hJ⟩ := hrel
    clear hI0
    have c7 := cell_at (j := 0) hJ.out.1.cell rfl
    cases S with
    | nil =>
      have hfin := hJ.out.2.1
      rw [Grf.iter_nil] at hfin
      injection hfin with _ hfin
      injection hfin with _ hfin
      have hE := Aside0.mk hfin
      clear hfin
      go_wp2
      go_ret
      obtain ⟨P, O, hP, hO, hR, hR2⟩ := hJ.out.1.ex
      have h1 : out = post G a := hE.out
      rw [← h1]
      exact ⟨_, rfl, Kd.R_mono hR2 (fun k hk => (hO k hk).1.1), hJ.out.1.below⟩
    | cons top S' =>
      obtain ⟨n, i0⟩ := top
      obtain ⟨m, rfl, hit⟩ := iter_not hJ.out.2.1 (by simp)
      have hnn : isNode G n := hJ.out.2.2.1 (n, i0) List.mem_cons_self
      have hSn : ∀ x ∈ S', isNode G x.1 := fun x hx => hJ.out.2.2.1 x (List.mem_cons_of_mem _ hx)
      obtain ⟨g, cc, ev, hcc⟩ := hJ.out.1.form (by simp)
      injection ev with ev1 ev2 ev3
      subst ev1
      subst ev3
      obtain ⟨ys, hys⟩ : ∃ ys, S'.reverse = ys := ⟨_, rfl⟩
      have hSr : ((n, i0) :: S').reverse = ys ++ [(n, i0)] := by rw [List.reverse_cons, hys]
      have hSl : ((n, i0) :: S').length = S'.length + 1 := rfl
      have hcnt := hJ.out.2.2.2
      have hyl : ys.length = S'.length := by rw [← hys, List.length_reverse]
      rw [hSr, List.length_append, List.length_singleton, hyl] at hcc
      obtain ⟨L, hL⟩ : ∃ L, S'.length = L := ⟨_, rfl⟩
      have hJ1 := hJ.out.1
      rw [hSr, hSl, hL] at hJ1
      rw [hSl, hL] at c7 hcnt
      rw [hL] at hyl hcc
      obtain ⟨st1, hst⟩ : ∃ st1, Grf.step (adj G) ((n, i0) :: S', metOf bs', out) = st1 := ⟨_, rfl⟩
      rw [hst] at hit
      have hY := Aside0.mk (And.intro hit (And.intro hnn (And.intro hSn (And.intro hys (And.intro hyl hL)))))
      have hI1 : Aside0 (SI G A c w wr p gb Q v bs' (.slice (some ⟨g, 0, none⟩) (L + 1) cs) (ys ++ [(n, i0)]) (.slice Ao out.length co) out ∧ Grf.step (adj G) ((n, i0) :: S', metOf bs', out) = st1) := ⟨hJ1, hst⟩
      clear hit hnn hSn hys hyl hL hJ hJ1 hst hSr hSl
      have hcnt' := Aside0.mk hcnt
      have hLb : L + 1 ≤ 65536 := by omega
      have hob : out.length ≤ 65536 := by omega
      clear hcnt
      have hw1 : wrap64 (L : Int) = (L : Int) := by unfold wrap64; omega
      go_wp2_with fail
      have hn2 := hY.out.2.1
      unfold isNode at hn2
      have hn2a := hn2.1
      have hn2b := hn2.2
      clear c7 hn2
      obtain ⟨row, hrow⟩ : ∃ row, rd_L1 G n = row := ⟨_, rfl⟩
      have hrl : row.length < 4611686018427387904 := by rw [← hrow]; exact hX.out.2.2.1.2 _ (adj_mem hY.out.2.1)
      have hrow' := Aside0.mk hrow
      clear hrow
      go_loopg [] row.length (fun q wi => ∃ i : Nat, row.length ≤ i + q ∧ Aside0 (SI G A c w wi p gb Q v bs' (.slice (some ⟨g, 0, none⟩) (L + 1) cs) (ys ++ [(n, i)]) (.slice Ao out.length co) out ∧ Grf.step (adj G) ((n, i) :: S', metOf bs', out) = st1))
      case atStart => exact ⟨i0, by omega, hI1⟩
      case round =>
        obtain ⟨i, hi, hJ⟩ := hrel
        clear hI1
        obtain ⟨t0, t1, t2, t3⟩ := hJ.out.1.top2 hY.out.2.2.2.2.1
        have cg := cell_at (j := 0) hJ.out.1.gcell rfl
        obtain ⟨ad, A1, c1, eA, r0, rl, rC⟩ := at_L1 (Kd.C_below hX.out.1 hJ.out.1.below) n hn2a hn2b
        rw [hrow'.out] at r0 rl rC
        subst eA
        have hR := Aside0.mk (And.intro rC rl)
        clear rC rl
        by_cases hlt : i < row.length
        · have hlti : (i : Int) < row.length := by omega
          obtain ⟨gk1, rfl⟩ : ∃ q, gk = q + 1 := ⟨gk - 1, by omega⟩
          have hi2 : row.length ≤ i + 1 + gk1 := by omega
          have hm2 : gk1 < gk1 + 1 := by omega
          have hm3 : m < m + 1 := by omega
          obtain ⟨bd, eB, b0⟩ := Kd.at_int hR.out.1 (i : Int) (by omega) hlti
          rw [rd_get row i hlt, Int.toNat_natCast] at b0
          subst eB
          obtain ⟨s, hs⟩ : ∃ s, s = row[i] := ⟨_, rfl⟩
          rw [← hs] at b0
          have hs' := Aside0.mk hs
          clear hs
          have hw2 : wrap64 ((i : Int) + 1) = ((i + 1 : Nat) : Int) := w64 i row.length hlt hrl
          go_wp2_with fail
          refine still_tail 13 (by kernel_rfl) (by kernel_rfl) ?_
          simp only [List.take_succ_cons, List.take_zero, List.drop_succ_cons, List.drop_zero]
          repeat still_step
          refine wpStill_nil ?_
          go_wp2_with fail
          refine still_tail 14 (by kernel_rfl) (by kernel_rfl) ?_
          simp only [List.take_succ_cons, List.take_zero, List.drop_succ_cons, List.drop_zero]
          repeat still_step
          refine wpStill_nil ?_
          go_wp2_with fail
          have hsn : isNode G s := by rw [hs'.out]; exact okG.adj hX.out.2.2.2.1.1 hY.out.2.1 (by unfold adj; rw [hrow'.out]; exact List.getElem_mem hlt)
          have hN := hJ.out.1.next2 hY.out.2.2.2.2.1 (i + 1)
          rw [show ((i + 1 : Nat) : Int) = (i : Int) + 1 by omega] at hN
          have hsl : (0 : Int) ≤ s ∧ s < bs'.length := by have := hJ.out.1.len; unfold isNode at hsn; omega
          have hrd : adj G n = row := hrow'.out
          have hN2 : SI G (some ad) c w (wr.setCell ⟨g, L * 2 + 1, none⟩ (.int .i64 ((i : Int) + 1))).drew.drew p gb Q v bs' (.slice (some ⟨g, 0, none⟩) (L + 1) cs) (ys ++ [(n, i + 1)]) (.slice Ao out.length co) out := hN.step (by repeat (first | exact Below.refl _ _ | apply below_drew1))
          refine (add_any v Q (some bs') s _ hN2.set_).mono ?_
          rw [setO_in bs' s hsl.1, addB_in bs' s hsl.1 hsl.2]
          rintro e w3 ⟨rfl, hP3, hK3⟩
          cases hm : metOf bs' s with
          | true =>
            rw [set_met hm] at hP3
            have hA := hN2.add hP3 hK3 rfl
            have hst := hJ.out.2
            rw [Grf.step_met (by rw [hrd]; exact hlt) (by simp only [hrd]; rw [← hs'.out]; exact hm)] at hst
            have hZ := Aside0.mk (And.intro hA hst)
            clear hA hst hP3 hK3 hN hN2 hsn hsl hrd t0 t1 t2 t3 cg r0 b0 hJ
            go_wp2_with fail
            go_roundg gk1
            case rel => exact ⟨i + 1, hi2, hZ⟩
            case measure => exact hm2
          | false =>
            have hA := hN2.add hP3 hK3 (by simp)
            have hst := hJ.out.2
            rw [Grf.step_new (by rw [hrd]; exact hlt) (by simp only [hrd]; rw [← hs'.out]; exact hm)] at hst
            simp only [hrd] at hst
            rw [← hs'.out, ← metOf_set bs' s hsl.1 hsl.2] at hst
            have hc9 := Grf.cnt_mark ((mem_nodes G s).2 hsn) hm
            rw [← metOf_set bs' s hsl.1 hsl.2] at hc9
            have hZ := Aside0.mk (And.intro hA (And.intro hst (And.intro hc9 hsn)))
            clear hA hst hP3 hK3 hN hN2 hsn hsl hrd t0 t1 t2 t3 cg r0 b0 hJ hc9 hm
            go_wp2_with fail
            refine (hZ.out.1.enter (by rw [List.length_append, hY.out.2.2.2.2.1]; rfl) (by omega) s).mono ?_
            rintro e w4 ⟨rfl, A4, c4, hE⟩
            have hE' := Aside0.mk hE
            clear hE
            go_wp2_with fail
            have hE2 : Aside0 (SI G (some ad) c w w4 p gb Q v (bs'.set s.toNat true) (.slice A4 ((s, 0) :: (n, i + 1) :: S').length c4) ((s, 0) :: (n, i + 1) :: S').reverse (.slice Ao out.length co) out ∧ Grf.iter (adj G) m ((s, 0) :: (n, i + 1) :: S', metOf (bs'.set s.toNat true), out) = ([], mf, post G a) ∧ (∀ x ∈ (s, 0) :: (n, i + 1) :: S', isNode G x.1) ∧ ((s, 0) :: (n, i + 1) :: S').length + out.length + Grf.cnt (nodes G) (metOf (bs'.set s.toNat true)) ≤ G.length) := by
              refine ⟨?_, ?_, ?_, ?_⟩
              · have h1 := hE'.out
                rw [show ((s, 0) :: (n, i + 1) :: S').reverse = ys ++ [(n, i + 1)] ++ [(s, 0)] by rw [List.reverse_cons, List.reverse_cons, hY.out.2.2.2.1], show ((s, 0) :: (n, i + 1) :: S').length = L + 1 + 1 by rw [List.length_cons, List.length_cons, hY.out.2.2.2.2.2]]
                exact h1
              · rw [hZ.out.2.1]; exact hY.out.1
              · intro x hx
                rcases List.mem_cons.1 hx with rfl | hx
                · exact hZ.out.2.2.2
                · rcases List.mem_cons.1 hx with rfl | hx
                  · exact hY.out.2.1
                  · exact hY.out.2.2.1 x hx
              · have h1 := hcnt'.out
                have h2 := hZ.out.2.2.1
                rw [List.length_cons, List.length_cons, hY.out.2.2.2.2.2]
                omega
            clear hE'
            go_roundg m
            case rel => exact ⟨(s, 0) :: (n, i + 1) :: S', out, bs'.set s.toNat true, A4, c4, Ao, co, rfl, hE2⟩
            case measure => exact hm3
        · have hst := hJ.out.2
          have hrd : adj G n = row := hrow'.out
          rw [Grf.step_end (by rw [hrd]; exact hlt)] at hst
          have hst' := Aside0.mk hst
          have hlti : ¬ (i : Int) < row.length := by omega
          clear hst hrd
          go_wp2_with fail
          refine still_tail 13 (by kernel_rfl) (by kernel_rfl) ?_
          simp only [List.take_succ_cons, List.take_zero, List.drop_succ_cons, List.drop_zero]
          repeat still_step
          refine wpStill_nil ?_
          have hJW := hJ.out.1.step (W := wr.drew) (by repeat (first | exact Below.refl _ _ | apply below_drew1))
          have hstep := hst'.out
          obtain ⟨W, hW⟩ : ∃ W, wr.drew = W := ⟨_, rfl⟩
          rw [hW] at hJW ⊢
          obtain ⟨u0, u1, u2, u3⟩ := hJW.top2 hY.out.2.2.2.2.1
          obtain ⟨P, O, hP, hO, hR5, hR6⟩ := hJW.ex
          have hZ := Aside0.mk (And.intro hJW (And.intro hP (And.intro hO (And.intro hR5 (And.intro hR6 hstep)))))
          clear hW hJW hJ hP hO hR5 hR6 hstep hst' u1 u2 u3 t0 t1 t2 t3 cg r0
          go_wp2_with (at_builtin; refine Kd.R_append (Kd.int .i64) (w0 := W) 0 (by rfl) (.tmp 75) (.tmp 80) 36 3 (.int .i64 0) 8 (by rfl) Try.underlying36 info3 rfl (by decide) (by decide) (.slice Ao out.length co) out n [.int .i64 n] (fun k => O k ∨ W.heap.size ≤ k) (fun _ => False) (by rfl) (by rfl) rfl (fun _ h => h.elim) (fun k hk => .inr hk) (Kd.R_mono hZ.out.2.2.2.2.1 (fun k hk => .inl hk)) ((Kp.refl (fun _ => False) W).belowB (fun _ h => h.elim) (Nat.zero_le _)) (Nat.zero_le _) (by omega) ?_; intro v1 wa hRA hBA hgA hatA; have hSA := hZ.out.1.app hZ.out.2.1 hZ.out.2.2.1 hZ.out.2.2.2.1 hZ.out.2.2.2.2.1 hRA hgA; obtain ⟨A3, c3, hv, _, _⟩ := Kd.R_reads hRA; subst hv; have x7 := cell_at (j := 0) hSA.cell rfl; have y7 := free_at hSA.cell 0; have hZ2 := Aside0.mk hSA; clear hRA hBA hgA hatA hSA)
          have hE2 : Aside0 (SI G (some ad) c w (wa.setCell ⟨p, 0, none⟩ (.slice (some ⟨g, 0, none⟩) L cs)) p gb Q v bs' (.slice (some ⟨g, 0, none⟩) S'.length cs) S'.reverse (.slice A3 (out ++ [n]).length c3) (out ++ [n]) ∧ Grf.iter (adj G) m (S', metOf bs', out ++ [n]) = ([], mf, post G a) ∧ (∀ x ∈ S', isNode G x.1) ∧ S'.length + (out ++ [n]).length + Grf.cnt (nodes G) (metOf bs') ≤ G.length) := by
            refine ⟨?_, ?_, hY.out.2.2.1, ?_⟩
            · rw [hY.out.2.2.2.1, hY.out.2.2.2.2.2]
              exact hZ2.out.pop2 hY.out.2.2.2.2.1
            · rw [hZ.out.2.2.2.2.2]; exact hY.out.1
            · have h1 := hcnt'.out
              rw [hY.out.2.2.2.2.2, List.length_append, List.length_singleton]
              omega
          have e9 : (out ++ [n]).length = out.length + 1 := by simp
          have hm3 : m < m + 1 := by omega
          clear hZ2 hZ
          go_roundg m
          case rel => exact ⟨S', out ++ [n], bs', some ⟨g, 0, none⟩, cs, A3, c3, by rw [e9], hE2⟩
          case measure => exact hm3
end Go.Proofs.Ytjkclhpibielfaa
