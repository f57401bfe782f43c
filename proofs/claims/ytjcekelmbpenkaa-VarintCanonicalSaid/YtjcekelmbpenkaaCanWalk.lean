/- VarintCanonical: the walk. Written by mkC.py. -/
import Derived.Test.YtjcekelmbpenkaaRoundWalk
import Derived.Test.YtjcekelmbpenkaaPreWalk
set_option linter.unusedVariables false
set_option linter.unusedSimpArgs false
namespace Go.Proofs.Ytjcekelmbpenkaa
open Go.RowKit Go.Proofs.YtjcekelmbpenkaaW.PrintWords Mem VarPure

theorem bytes_of_str {x : List Int} (h : Bs x) : bytesOf (strOfNums x) = x := by
  unfold strOfNums bytesOf
  simp only [List.map_map]
  conv => rhs; rw [← List.map_id x]
  refine List.map_congr_left fun a ha => ?_
  have := h a ha
  simp
  omega
theorem strsize (l : List Int) : (strOfNums l).size = l.length := by simp [strOfNums, ByteArray.size]
theorem rdIs_len (l : List Int) : (rdIs l 0).1.length ≤ l.length := by
  have h := rdL_le l 0
  rw [rdIs]
  simp only
  split
  · simp
  · rw [rdN_len]; omega
theorem rdIs_I64 {l : List Int} (hb : Bs l) : ∀ x ∈ (rdIs l 0).1, I64 x := by
  rw [rdIs]
  simp only
  split
  · simp
  · exact rdN_I64 _ (rdL_Bs hb 0) _
theorem rdS_Bs {l : List Int} (hb : Bs l) : Bs (rdS l 0).1 := (rdL_Bs hb 0).take _
theorem rdS_len (l : List Int) : (rdS l 0).1.length ≤ l.length := by
  have h := rdL_le l 0
  rw [rdS]
  simp only [List.length_take]
  omega
theorem eqb_same {c0 c1 n : Nat} {A0 A1 : Option Addr} {m : List Int} {w : World} (hn : n ≤ m.length) (h0 : Kd.C Byt w A0 (m.take n).length (m.take n)) (h1 : Kd.C Byt w A1 m.length m) (g0 : (m.take n).length ≤ c0) (g1 : m.length ≤ c1) (hl : m.length ≤ 1000000) :
    Calls Try.prog 10 #[.slice A0 n c0, .slice A1 n c1] w fun e w' => e = .returned (.bool true) ∧ ∃ k, w' = w.drewN k := by
  have hl2 : (m.take n).length = n := by rw [List.length_take]; omega
  have := eqb_cut hn h0 h1 g0 g1 (by omega)
  rw [show decide (m.take n = m.take n) = true by simp] at this
  rwa [hl2] at this
theorem take_of_app {a b c : List Int} (h : a = b ++ c) : a.take (a.length - c.length) = b := by
  subst h
  rw [List.length_append, Nat.add_sub_cancel, List.take_left]

set_option maxRecDepth 100000 in
set_option maxHeartbeats 2000000 in
theorem can_yyy (A : Option Addr) (c : Nat) (b : List Int) (w : World) (q r1 x r2 r3 : List Int) (n f1 f2 f3 : Int)
    (hX : Aside0 (Kd.C Byt w A b.length b ∧ Bs b)) (hc : b.length ≤ c) (d0 : decide ((300 : Int) < b.length) = false) (hbl : b.length ≤ 300)
    (hI : Aside0 (rdIs b 0 = (q, r1, f1) ∧ rdS b 0 = (x, r2, f2) ∧ rdI b 0 = (n, r3, f3)))
    (hE : Aside0 ((encL q = b.take (b.length - r1.length) ∧ r1.length ≤ b.length) ∧ (encS (strOfNums x) = b.take (b.length - r2.length) ∧ r2.length ≤ b.length) ∧ (encI n = b.take (b.length - r3.length) ∧ r3.length ≤ b.length))) (d1 : f1 = 0) (d2 : f2 = 0) (d3 : f3 = 0) :
    Calls Try.prog 8 #[.slice A b.length c] w fun e w' => e = .returned (.bool true) ∧ Below w.heap.size w w' := by
  subst d1
  subst d2
  subst d3
  have hql : q.length ≤ 300 := by have := rdIs_len b; rw [hI.out.1] at this; simp only at this; omega
  have hxl : x.length ≤ 300 := by have := rdS_len b; rw [hI.out.2.1] at this; simp only at this; omega
  have hxs := strsize x
  go_enter Try.func8, Try.ntmps8
  go_wp2_with fail
  refine (new_any b.length c A b w hX.out.1 hX.out.2 (by omega)).mono ?_
  rintro r w1 ⟨p1, rfl, hD1, hK1⟩
  have h1 := Aside0.mk (And.intro hD1.bound hK1)
  clear hD1 hK1
  go_wp2_with fail
  refine (new_any b.length c A b w1 (Kd.C_below hX.out.1 h1.out.2.none_below) hX.out.2 (by omega)).mono ?_
  rintro r w2 ⟨p2, rfl, hD2, hK2⟩
  have h2 := Aside0.mk (And.intro hD2.bound (h1.out.2.then_ hK2 (fun _ h => h.elim)))
  have g1 := Aside0.mk (h1.out.1.step (w1 := w2) (fun k hk hlt => hK2.block hlt (fun h => h)))
  clear hD2 hK2
  go_wp2_with fail
  refine (new_any b.length c A b w2 (Kd.C_below hX.out.1 h2.out.2.none_below) hX.out.2 (by omega)).mono ?_
  rintro r w3 ⟨p3, rfl, hD3, hK3⟩
  have h3 := Aside0.mk (And.intro hD3.bound (h2.out.2.then_ hK3 (fun _ h => h.elim)))
  have g2 := Aside0.mk (And.intro (g1.out.step (w1 := w3) (fun k hk hlt => hK3.block hlt (fun h => h))) (h2.out.1.step (w1 := w3) (fun k hk hlt => hK3.block hlt (fun h => h))))
  clear hD3 hK3 g1
  have z1 := h1.out.1.okp
  have z2 := h2.out.1.okp
  have z3 := h3.out.1.okp
  have s1 := h1.out.2.size
  go_wp2_with fail
  refine (ints_any g2.out.1).mono ?_
  rw [hI.out.1]
  rintro r w4 ⟨v4, rfl, hO4, hD4, hK4⟩
  have hO4 := Kd.R_bound hO4
  obtain ⟨A4, c4, rfl, hc4, _⟩ := Kd.R_reads hO4
  have h4 := Aside0.mk (And.intro hO4 (And.intro hD4 (And.intro (g2.out.2.kept hK4 (fun k hk he => by omega)) (And.intro (h3.out.1.kept hK4 (fun k hk he => by omega)) (((h3.out.2.mono (S' := fun k => w.heap.size ≤ k) (fun _ h => h.elim)).then_ hK4 (fun k hk => .inr (by omega))))))))
  clear hO4 hD4 hK4
  go_wp2_with fail
  refine (string_any h4.out.2.2.1).mono ?_
  rw [hI.out.2.1]
  rintro r w5 ⟨rfl, hD5, hK5⟩
  have h5 := Aside0.mk (And.intro (Kd.R_kept h4.out.1 hK5.kept (fun k hk he => by have := hk.1; omega)) (And.intro (h4.out.2.1.kept hK5 (fun k hk he => by omega)) (And.intro hD5 (And.intro (h4.out.2.2.2.1.kept hK5 (fun k hk he => by omega)) (h4.out.2.2.2.2.then_ hK5 (fun k hk => .inr (by omega)))))))
  clear hD5 hK5
  go_wp2_with fail
  refine (int_any h5.out.2.2.2.1).mono ?_
  rw [hI.out.2.2]
  rintro r w6 ⟨rfl, hD6, hK6⟩
  have h6 := Aside0.mk (And.intro (Kd.R_kept h5.out.1 hK6.kept (fun k hk he => by have := hk.1; omega)) (And.intro (h5.out.2.1.kept hK6 (fun k hk he => by omega)) (And.intro (h5.out.2.2.1.kept hK6 (fun k hk he => by omega)) (And.intro hD6 (h5.out.2.2.2.2.then_ hK6 (fun k hk => .inr (by omega)))))))
  clear hD6 hK6
  have hA := Aside0.mk (Kp.refl (fun _ => False) w6)
  go_wp2_with fail
  refine (err_any (Rdr.kept h6.out.2.1 hA.out (fun _ _ h => h))).mono ?_
  rintro r y1 ⟨rfl, rfl⟩
  go_wp2_with fail
  refine (aints_any 0 0 q.length c4 none A4 [] q _ (Kd.C_nil _ _) (Kd.C_below (by obtain ⟨_, _, h⟩ := Kd.R_reads' h6.out.1; exact h) hA.out.none_below) (fun y hy => by have := rdIs_I64 hX.out.2 y; rw [hI.out.1] at this; exact this hy) (by omega) (by omega)).mono ?_
  rintro r y2 ⟨v8, rfl, hR8, hK8⟩
  rw [List.nil_append, (hE.out.1).1] at hR8
  have hA2 := Aside0.mk (hA.out.then_ hK8 (fun _ h => h.elim))
  have hKb : Aside0 (Kp (fun k => w.heap.size ≤ k) w y2) := ⟨h6.out.2.2.2.2.then_ hA2.out (fun _ h => h.elim)⟩
  clear hA hK8
  obtain ⟨A8, c8, rfl, hc8, hC8⟩ := Kd.R_reads hR8
  have h8 := Aside0.mk hC8
  clear hR8 hC8
  go_wp2_with fail
  refine (len_any (Rdr.kept h6.out.2.1 hA2.out (fun _ _ h => h))).mono ?_
  rintro r y3 ⟨rfl, m3, rfl⟩
  have hle : r1.length ≤ b.length := (hE.out.1).2
  go_wp2_with fail
  refine (eqb_same (m := b) (n := b.length - r1.length) (by omega) (w := y2.drewN m3) h8.out (Kd.C_below hX.out.1 ((hKb.out.drewN m3).below (fun _ h => h))) hc8 hc (by omega)).mono ?_
  rintro r y4 ⟨rfl, m4, rfl⟩
  have hA := Aside0.mk (hA2.out.drewN (m3 + m4))
  clear hA2 hKb h8 hc8 hle
  go_wp2_with fail
  refine (err_any (Rdr.kept h6.out.2.2.1 hA.out (fun _ _ h => h))).mono ?_
  rintro r y1 ⟨rfl, rfl⟩
  go_wp2_with fail
  refine (astr_any 0 0 none [] (strOfNums x) _ (Kd.C_nil _ _) (by omega) (by omega)).mono ?_
  rintro r y2 ⟨v8, rfl, hR8, hK8⟩
  rw [List.nil_append, (hE.out.2.1).1] at hR8
  have hA2 := Aside0.mk (hA.out.then_ hK8 (fun _ h => h.elim))
  have hKb : Aside0 (Kp (fun k => w.heap.size ≤ k) w y2) := ⟨h6.out.2.2.2.2.then_ hA2.out (fun _ h => h.elim)⟩
  clear hA hK8
  obtain ⟨A8, c8, rfl, hc8, hC8⟩ := Kd.R_reads hR8
  have h8 := Aside0.mk hC8
  clear hR8 hC8
  go_wp2_with fail
  refine (len_any (Rdr.kept h6.out.2.2.1 hA2.out (fun _ _ h => h))).mono ?_
  rintro r y3 ⟨rfl, m3, rfl⟩
  have hle : r2.length ≤ b.length := (hE.out.2.1).2
  go_wp2_with fail
  refine (eqb_same (m := b) (n := b.length - r2.length) (by omega) (w := y2.drewN m3) h8.out (Kd.C_below hX.out.1 ((hKb.out.drewN m3).below (fun _ h => h))) hc8 hc (by omega)).mono ?_
  rintro r y4 ⟨rfl, m4, rfl⟩
  have hA := Aside0.mk (hA2.out.drewN (m3 + m4))
  clear hA2 hKb h8 hc8 hle
  go_wp2_with fail
  refine (err_any (Rdr.kept h6.out.2.2.2.1 hA.out (fun _ _ h => h))).mono ?_
  rintro r y1 ⟨rfl, rfl⟩
  go_wp2_with fail
  refine (aint_any 0 0 none [] n _ (Kd.C_nil _ _) (by have := rdI_I64 hX.out.2 0; rw [hI.out.2.2] at this; exact this) (by omega)).mono ?_
  rintro r y2 ⟨v8, rfl, hR8, hK8⟩
  rw [List.nil_append, (hE.out.2.2).1] at hR8
  have hA2 := Aside0.mk (hA.out.then_ hK8 (fun _ h => h.elim))
  have hKb : Aside0 (Kp (fun k => w.heap.size ≤ k) w y2) := ⟨h6.out.2.2.2.2.then_ hA2.out (fun _ h => h.elim)⟩
  clear hA hK8
  obtain ⟨A8, c8, rfl, hc8, hC8⟩ := Kd.R_reads hR8
  have h8 := Aside0.mk hC8
  clear hR8 hC8
  go_wp2_with fail
  refine (len_any (Rdr.kept h6.out.2.2.2.1 hA2.out (fun _ _ h => h))).mono ?_
  rintro r y3 ⟨rfl, m3, rfl⟩
  have hle : r3.length ≤ b.length := (hE.out.2.2).2
  go_wp2_with fail
  refine (eqb_same (m := b) (n := b.length - r3.length) (by omega) (w := y2.drewN m3) h8.out (Kd.C_below hX.out.1 ((hKb.out.drewN m3).below (fun _ h => h))) hc8 hc (by omega)).mono ?_
  rintro r y4 ⟨rfl, m4, rfl⟩
  have hA := Aside0.mk (hA2.out.drewN (m3 + m4))
  clear hA2 hKb h8 hc8 hle
  go_wp2_with (go_at_call 11; refine (works_any _).mono ?_; rintro r w99 ⟨rfl, hB⟩)
  go_ret
  have hK := h6.out.2.2.2.2.then_ hA.out (fun _ h => h.elim)
  exact ⟨rfl, below_then (hK.below (fun _ h => h)) hK.size hB⟩

set_option maxRecDepth 100000 in
set_option maxHeartbeats 2000000 in
theorem can_yyn (A : Option Addr) (c : Nat) (b : List Int) (w : World) (q r1 x r2 r3 : List Int) (n f1 f2 f3 : Int)
    (hX : Aside0 (Kd.C Byt w A b.length b ∧ Bs b)) (hc : b.length ≤ c) (d0 : decide ((300 : Int) < b.length) = false) (hbl : b.length ≤ 300)
    (hI : Aside0 (rdIs b 0 = (q, r1, f1) ∧ rdS b 0 = (x, r2, f2) ∧ rdI b 0 = (n, r3, f3)))
    (hE : Aside0 ((encL q = b.take (b.length - r1.length) ∧ r1.length ≤ b.length) ∧ (encS (strOfNums x) = b.take (b.length - r2.length) ∧ r2.length ≤ b.length) ∧ (True))) (d1 : f1 = 0) (d2 : f2 = 0) (d3 : (f3 == 0) = false) :
    Calls Try.prog 8 #[.slice A b.length c] w fun e w' => e = .returned (.bool true) ∧ Below w.heap.size w w' := by
  subst d1
  subst d2
  have hql : q.length ≤ 300 := by have := rdIs_len b; rw [hI.out.1] at this; simp only at this; omega
  have hxl : x.length ≤ 300 := by have := rdS_len b; rw [hI.out.2.1] at this; simp only at this; omega
  have hxs := strsize x
  go_enter Try.func8, Try.ntmps8
  go_wp2_with fail
  refine (new_any b.length c A b w hX.out.1 hX.out.2 (by omega)).mono ?_
  rintro r w1 ⟨p1, rfl, hD1, hK1⟩
  have h1 := Aside0.mk (And.intro hD1.bound hK1)
  clear hD1 hK1
  go_wp2_with fail
  refine (new_any b.length c A b w1 (Kd.C_below hX.out.1 h1.out.2.none_below) hX.out.2 (by omega)).mono ?_
  rintro r w2 ⟨p2, rfl, hD2, hK2⟩
  have h2 := Aside0.mk (And.intro hD2.bound (h1.out.2.then_ hK2 (fun _ h => h.elim)))
  have g1 := Aside0.mk (h1.out.1.step (w1 := w2) (fun k hk hlt => hK2.block hlt (fun h => h)))
  clear hD2 hK2
  go_wp2_with fail
  refine (new_any b.length c A b w2 (Kd.C_below hX.out.1 h2.out.2.none_below) hX.out.2 (by omega)).mono ?_
  rintro r w3 ⟨p3, rfl, hD3, hK3⟩
  have h3 := Aside0.mk (And.intro hD3.bound (h2.out.2.then_ hK3 (fun _ h => h.elim)))
  have g2 := Aside0.mk (And.intro (g1.out.step (w1 := w3) (fun k hk hlt => hK3.block hlt (fun h => h))) (h2.out.1.step (w1 := w3) (fun k hk hlt => hK3.block hlt (fun h => h))))
  clear hD3 hK3 g1
  have z1 := h1.out.1.okp
  have z2 := h2.out.1.okp
  have z3 := h3.out.1.okp
  have s1 := h1.out.2.size
  go_wp2_with fail
  refine (ints_any g2.out.1).mono ?_
  rw [hI.out.1]
  rintro r w4 ⟨v4, rfl, hO4, hD4, hK4⟩
  have hO4 := Kd.R_bound hO4
  obtain ⟨A4, c4, rfl, hc4, _⟩ := Kd.R_reads hO4
  have h4 := Aside0.mk (And.intro hO4 (And.intro hD4 (And.intro (g2.out.2.kept hK4 (fun k hk he => by omega)) (And.intro (h3.out.1.kept hK4 (fun k hk he => by omega)) (((h3.out.2.mono (S' := fun k => w.heap.size ≤ k) (fun _ h => h.elim)).then_ hK4 (fun k hk => .inr (by omega))))))))
  clear hO4 hD4 hK4
  go_wp2_with fail
  refine (string_any h4.out.2.2.1).mono ?_
  rw [hI.out.2.1]
  rintro r w5 ⟨rfl, hD5, hK5⟩
  have h5 := Aside0.mk (And.intro (Kd.R_kept h4.out.1 hK5.kept (fun k hk he => by have := hk.1; omega)) (And.intro (h4.out.2.1.kept hK5 (fun k hk he => by omega)) (And.intro hD5 (And.intro (h4.out.2.2.2.1.kept hK5 (fun k hk he => by omega)) (h4.out.2.2.2.2.then_ hK5 (fun k hk => .inr (by omega)))))))
  clear hD5 hK5
  go_wp2_with fail
  refine (int_any h5.out.2.2.2.1).mono ?_
  rw [hI.out.2.2]
  rintro r w6 ⟨rfl, hD6, hK6⟩
  have h6 := Aside0.mk (And.intro (Kd.R_kept h5.out.1 hK6.kept (fun k hk he => by have := hk.1; omega)) (And.intro (h5.out.2.1.kept hK6 (fun k hk he => by omega)) (And.intro (h5.out.2.2.1.kept hK6 (fun k hk he => by omega)) (And.intro hD6 (h5.out.2.2.2.2.then_ hK6 (fun k hk => .inr (by omega)))))))
  clear hD6 hK6
  have hA := Aside0.mk (Kp.refl (fun _ => False) w6)
  go_wp2_with fail
  refine (err_any (Rdr.kept h6.out.2.1 hA.out (fun _ _ h => h))).mono ?_
  rintro r y1 ⟨rfl, rfl⟩
  go_wp2_with fail
  refine (aints_any 0 0 q.length c4 none A4 [] q _ (Kd.C_nil _ _) (Kd.C_below (by obtain ⟨_, _, h⟩ := Kd.R_reads' h6.out.1; exact h) hA.out.none_below) (fun y hy => by have := rdIs_I64 hX.out.2 y; rw [hI.out.1] at this; exact this hy) (by omega) (by omega)).mono ?_
  rintro r y2 ⟨v8, rfl, hR8, hK8⟩
  rw [List.nil_append, (hE.out.1).1] at hR8
  have hA2 := Aside0.mk (hA.out.then_ hK8 (fun _ h => h.elim))
  have hKb : Aside0 (Kp (fun k => w.heap.size ≤ k) w y2) := ⟨h6.out.2.2.2.2.then_ hA2.out (fun _ h => h.elim)⟩
  clear hA hK8
  obtain ⟨A8, c8, rfl, hc8, hC8⟩ := Kd.R_reads hR8
  have h8 := Aside0.mk hC8
  clear hR8 hC8
  go_wp2_with fail
  refine (len_any (Rdr.kept h6.out.2.1 hA2.out (fun _ _ h => h))).mono ?_
  rintro r y3 ⟨rfl, m3, rfl⟩
  have hle : r1.length ≤ b.length := (hE.out.1).2
  go_wp2_with fail
  refine (eqb_same (m := b) (n := b.length - r1.length) (by omega) (w := y2.drewN m3) h8.out (Kd.C_below hX.out.1 ((hKb.out.drewN m3).below (fun _ h => h))) hc8 hc (by omega)).mono ?_
  rintro r y4 ⟨rfl, m4, rfl⟩
  have hA := Aside0.mk (hA2.out.drewN (m3 + m4))
  clear hA2 hKb h8 hc8 hle
  go_wp2_with fail
  refine (err_any (Rdr.kept h6.out.2.2.1 hA.out (fun _ _ h => h))).mono ?_
  rintro r y1 ⟨rfl, rfl⟩
  go_wp2_with fail
  refine (astr_any 0 0 none [] (strOfNums x) _ (Kd.C_nil _ _) (by omega) (by omega)).mono ?_
  rintro r y2 ⟨v8, rfl, hR8, hK8⟩
  rw [List.nil_append, (hE.out.2.1).1] at hR8
  have hA2 := Aside0.mk (hA.out.then_ hK8 (fun _ h => h.elim))
  have hKb : Aside0 (Kp (fun k => w.heap.size ≤ k) w y2) := ⟨h6.out.2.2.2.2.then_ hA2.out (fun _ h => h.elim)⟩
  clear hA hK8
  obtain ⟨A8, c8, rfl, hc8, hC8⟩ := Kd.R_reads hR8
  have h8 := Aside0.mk hC8
  clear hR8 hC8
  go_wp2_with fail
  refine (len_any (Rdr.kept h6.out.2.2.1 hA2.out (fun _ _ h => h))).mono ?_
  rintro r y3 ⟨rfl, m3, rfl⟩
  have hle : r2.length ≤ b.length := (hE.out.2.1).2
  go_wp2_with fail
  refine (eqb_same (m := b) (n := b.length - r2.length) (by omega) (w := y2.drewN m3) h8.out (Kd.C_below hX.out.1 ((hKb.out.drewN m3).below (fun _ h => h))) hc8 hc (by omega)).mono ?_
  rintro r y4 ⟨rfl, m4, rfl⟩
  have hA := Aside0.mk (hA2.out.drewN (m3 + m4))
  clear hA2 hKb h8 hc8 hle
  go_wp2_with fail
  refine (err_any (Rdr.kept h6.out.2.2.2.1 hA.out (fun _ _ h => h))).mono ?_
  rintro r y1 ⟨rfl, rfl⟩
  go_wp2_with (go_at_call 11; refine (works_any _).mono ?_; rintro r w99 ⟨rfl, hB⟩)
  go_ret
  have hK := h6.out.2.2.2.2.then_ hA.out (fun _ h => h.elim)
  exact ⟨rfl, below_then (hK.below (fun _ h => h)) hK.size hB⟩

set_option maxRecDepth 100000 in
set_option maxHeartbeats 2000000 in
theorem can_yny (A : Option Addr) (c : Nat) (b : List Int) (w : World) (q r1 x r2 r3 : List Int) (n f1 f2 f3 : Int)
    (hX : Aside0 (Kd.C Byt w A b.length b ∧ Bs b)) (hc : b.length ≤ c) (d0 : decide ((300 : Int) < b.length) = false) (hbl : b.length ≤ 300)
    (hI : Aside0 (rdIs b 0 = (q, r1, f1) ∧ rdS b 0 = (x, r2, f2) ∧ rdI b 0 = (n, r3, f3)))
    (hE : Aside0 ((encL q = b.take (b.length - r1.length) ∧ r1.length ≤ b.length) ∧ (True) ∧ (encI n = b.take (b.length - r3.length) ∧ r3.length ≤ b.length))) (d1 : f1 = 0) (d2 : (f2 == 0) = false) (d3 : f3 = 0) :
    Calls Try.prog 8 #[.slice A b.length c] w fun e w' => e = .returned (.bool true) ∧ Below w.heap.size w w' := by
  subst d1
  subst d3
  have hql : q.length ≤ 300 := by have := rdIs_len b; rw [hI.out.1] at this; simp only at this; omega
  have hxl : x.length ≤ 300 := by have := rdS_len b; rw [hI.out.2.1] at this; simp only at this; omega
  have hxs := strsize x
  go_enter Try.func8, Try.ntmps8
  go_wp2_with fail
  refine (new_any b.length c A b w hX.out.1 hX.out.2 (by omega)).mono ?_
  rintro r w1 ⟨p1, rfl, hD1, hK1⟩
  have h1 := Aside0.mk (And.intro hD1.bound hK1)
  clear hD1 hK1
  go_wp2_with fail
  refine (new_any b.length c A b w1 (Kd.C_below hX.out.1 h1.out.2.none_below) hX.out.2 (by omega)).mono ?_
  rintro r w2 ⟨p2, rfl, hD2, hK2⟩
  have h2 := Aside0.mk (And.intro hD2.bound (h1.out.2.then_ hK2 (fun _ h => h.elim)))
  have g1 := Aside0.mk (h1.out.1.step (w1 := w2) (fun k hk hlt => hK2.block hlt (fun h => h)))
  clear hD2 hK2
  go_wp2_with fail
  refine (new_any b.length c A b w2 (Kd.C_below hX.out.1 h2.out.2.none_below) hX.out.2 (by omega)).mono ?_
  rintro r w3 ⟨p3, rfl, hD3, hK3⟩
  have h3 := Aside0.mk (And.intro hD3.bound (h2.out.2.then_ hK3 (fun _ h => h.elim)))
  have g2 := Aside0.mk (And.intro (g1.out.step (w1 := w3) (fun k hk hlt => hK3.block hlt (fun h => h))) (h2.out.1.step (w1 := w3) (fun k hk hlt => hK3.block hlt (fun h => h))))
  clear hD3 hK3 g1
  have z1 := h1.out.1.okp
  have z2 := h2.out.1.okp
  have z3 := h3.out.1.okp
  have s1 := h1.out.2.size
  go_wp2_with fail
  refine (ints_any g2.out.1).mono ?_
  rw [hI.out.1]
  rintro r w4 ⟨v4, rfl, hO4, hD4, hK4⟩
  have hO4 := Kd.R_bound hO4
  obtain ⟨A4, c4, rfl, hc4, _⟩ := Kd.R_reads hO4
  have h4 := Aside0.mk (And.intro hO4 (And.intro hD4 (And.intro (g2.out.2.kept hK4 (fun k hk he => by omega)) (And.intro (h3.out.1.kept hK4 (fun k hk he => by omega)) (((h3.out.2.mono (S' := fun k => w.heap.size ≤ k) (fun _ h => h.elim)).then_ hK4 (fun k hk => .inr (by omega))))))))
  clear hO4 hD4 hK4
  go_wp2_with fail
  refine (string_any h4.out.2.2.1).mono ?_
  rw [hI.out.2.1]
  rintro r w5 ⟨rfl, hD5, hK5⟩
  have h5 := Aside0.mk (And.intro (Kd.R_kept h4.out.1 hK5.kept (fun k hk he => by have := hk.1; omega)) (And.intro (h4.out.2.1.kept hK5 (fun k hk he => by omega)) (And.intro hD5 (And.intro (h4.out.2.2.2.1.kept hK5 (fun k hk he => by omega)) (h4.out.2.2.2.2.then_ hK5 (fun k hk => .inr (by omega)))))))
  clear hD5 hK5
  go_wp2_with fail
  refine (int_any h5.out.2.2.2.1).mono ?_
  rw [hI.out.2.2]
  rintro r w6 ⟨rfl, hD6, hK6⟩
  have h6 := Aside0.mk (And.intro (Kd.R_kept h5.out.1 hK6.kept (fun k hk he => by have := hk.1; omega)) (And.intro (h5.out.2.1.kept hK6 (fun k hk he => by omega)) (And.intro (h5.out.2.2.1.kept hK6 (fun k hk he => by omega)) (And.intro hD6 (h5.out.2.2.2.2.then_ hK6 (fun k hk => .inr (by omega)))))))
  clear hD6 hK6
  have hA := Aside0.mk (Kp.refl (fun _ => False) w6)
  go_wp2_with fail
  refine (err_any (Rdr.kept h6.out.2.1 hA.out (fun _ _ h => h))).mono ?_
  rintro r y1 ⟨rfl, rfl⟩
  go_wp2_with fail
  refine (aints_any 0 0 q.length c4 none A4 [] q _ (Kd.C_nil _ _) (Kd.C_below (by obtain ⟨_, _, h⟩ := Kd.R_reads' h6.out.1; exact h) hA.out.none_below) (fun y hy => by have := rdIs_I64 hX.out.2 y; rw [hI.out.1] at this; exact this hy) (by omega) (by omega)).mono ?_
  rintro r y2 ⟨v8, rfl, hR8, hK8⟩
  rw [List.nil_append, (hE.out.1).1] at hR8
  have hA2 := Aside0.mk (hA.out.then_ hK8 (fun _ h => h.elim))
  have hKb : Aside0 (Kp (fun k => w.heap.size ≤ k) w y2) := ⟨h6.out.2.2.2.2.then_ hA2.out (fun _ h => h.elim)⟩
  clear hA hK8
  obtain ⟨A8, c8, rfl, hc8, hC8⟩ := Kd.R_reads hR8
  have h8 := Aside0.mk hC8
  clear hR8 hC8
  go_wp2_with fail
  refine (len_any (Rdr.kept h6.out.2.1 hA2.out (fun _ _ h => h))).mono ?_
  rintro r y3 ⟨rfl, m3, rfl⟩
  have hle : r1.length ≤ b.length := (hE.out.1).2
  go_wp2_with fail
  refine (eqb_same (m := b) (n := b.length - r1.length) (by omega) (w := y2.drewN m3) h8.out (Kd.C_below hX.out.1 ((hKb.out.drewN m3).below (fun _ h => h))) hc8 hc (by omega)).mono ?_
  rintro r y4 ⟨rfl, m4, rfl⟩
  have hA := Aside0.mk (hA2.out.drewN (m3 + m4))
  clear hA2 hKb h8 hc8 hle
  go_wp2_with fail
  refine (err_any (Rdr.kept h6.out.2.2.1 hA.out (fun _ _ h => h))).mono ?_
  rintro r y1 ⟨rfl, rfl⟩
  go_wp2_with fail
  refine (err_any (Rdr.kept h6.out.2.2.2.1 hA.out (fun _ _ h => h))).mono ?_
  rintro r y1 ⟨rfl, rfl⟩
  go_wp2_with fail
  refine (aint_any 0 0 none [] n _ (Kd.C_nil _ _) (by have := rdI_I64 hX.out.2 0; rw [hI.out.2.2] at this; exact this) (by omega)).mono ?_
  rintro r y2 ⟨v8, rfl, hR8, hK8⟩
  rw [List.nil_append, (hE.out.2.2).1] at hR8
  have hA2 := Aside0.mk (hA.out.then_ hK8 (fun _ h => h.elim))
  have hKb : Aside0 (Kp (fun k => w.heap.size ≤ k) w y2) := ⟨h6.out.2.2.2.2.then_ hA2.out (fun _ h => h.elim)⟩
  clear hA hK8
  obtain ⟨A8, c8, rfl, hc8, hC8⟩ := Kd.R_reads hR8
  have h8 := Aside0.mk hC8
  clear hR8 hC8
  go_wp2_with fail
  refine (len_any (Rdr.kept h6.out.2.2.2.1 hA2.out (fun _ _ h => h))).mono ?_
  rintro r y3 ⟨rfl, m3, rfl⟩
  have hle : r3.length ≤ b.length := (hE.out.2.2).2
  go_wp2_with fail
  refine (eqb_same (m := b) (n := b.length - r3.length) (by omega) (w := y2.drewN m3) h8.out (Kd.C_below hX.out.1 ((hKb.out.drewN m3).below (fun _ h => h))) hc8 hc (by omega)).mono ?_
  rintro r y4 ⟨rfl, m4, rfl⟩
  have hA := Aside0.mk (hA2.out.drewN (m3 + m4))
  clear hA2 hKb h8 hc8 hle
  go_wp2_with (go_at_call 11; refine (works_any _).mono ?_; rintro r w99 ⟨rfl, hB⟩)
  go_ret
  have hK := h6.out.2.2.2.2.then_ hA.out (fun _ h => h.elim)
  exact ⟨rfl, below_then (hK.below (fun _ h => h)) hK.size hB⟩

set_option maxRecDepth 100000 in
set_option maxHeartbeats 2000000 in
theorem can_ynn (A : Option Addr) (c : Nat) (b : List Int) (w : World) (q r1 x r2 r3 : List Int) (n f1 f2 f3 : Int)
    (hX : Aside0 (Kd.C Byt w A b.length b ∧ Bs b)) (hc : b.length ≤ c) (d0 : decide ((300 : Int) < b.length) = false) (hbl : b.length ≤ 300)
    (hI : Aside0 (rdIs b 0 = (q, r1, f1) ∧ rdS b 0 = (x, r2, f2) ∧ rdI b 0 = (n, r3, f3)))
    (hE : Aside0 ((encL q = b.take (b.length - r1.length) ∧ r1.length ≤ b.length) ∧ (True) ∧ (True))) (d1 : f1 = 0) (d2 : (f2 == 0) = false) (d3 : (f3 == 0) = false) :
    Calls Try.prog 8 #[.slice A b.length c] w fun e w' => e = .returned (.bool true) ∧ Below w.heap.size w w' := by
  subst d1
  have hql : q.length ≤ 300 := by have := rdIs_len b; rw [hI.out.1] at this; simp only at this; omega
  have hxl : x.length ≤ 300 := by have := rdS_len b; rw [hI.out.2.1] at this; simp only at this; omega
  have hxs := strsize x
  go_enter Try.func8, Try.ntmps8
  go_wp2_with fail
  refine (new_any b.length c A b w hX.out.1 hX.out.2 (by omega)).mono ?_
  rintro r w1 ⟨p1, rfl, hD1, hK1⟩
  have h1 := Aside0.mk (And.intro hD1.bound hK1)
  clear hD1 hK1
  go_wp2_with fail
  refine (new_any b.length c A b w1 (Kd.C_below hX.out.1 h1.out.2.none_below) hX.out.2 (by omega)).mono ?_
  rintro r w2 ⟨p2, rfl, hD2, hK2⟩
  have h2 := Aside0.mk (And.intro hD2.bound (h1.out.2.then_ hK2 (fun _ h => h.elim)))
  have g1 := Aside0.mk (h1.out.1.step (w1 := w2) (fun k hk hlt => hK2.block hlt (fun h => h)))
  clear hD2 hK2
  go_wp2_with fail
  refine (new_any b.length c A b w2 (Kd.C_below hX.out.1 h2.out.2.none_below) hX.out.2 (by omega)).mono ?_
  rintro r w3 ⟨p3, rfl, hD3, hK3⟩
  have h3 := Aside0.mk (And.intro hD3.bound (h2.out.2.then_ hK3 (fun _ h => h.elim)))
  have g2 := Aside0.mk (And.intro (g1.out.step (w1 := w3) (fun k hk hlt => hK3.block hlt (fun h => h))) (h2.out.1.step (w1 := w3) (fun k hk hlt => hK3.block hlt (fun h => h))))
  clear hD3 hK3 g1
  have z1 := h1.out.1.okp
  have z2 := h2.out.1.okp
  have z3 := h3.out.1.okp
  have s1 := h1.out.2.size
  go_wp2_with fail
  refine (ints_any g2.out.1).mono ?_
  rw [hI.out.1]
  rintro r w4 ⟨v4, rfl, hO4, hD4, hK4⟩
  have hO4 := Kd.R_bound hO4
  obtain ⟨A4, c4, rfl, hc4, _⟩ := Kd.R_reads hO4
  have h4 := Aside0.mk (And.intro hO4 (And.intro hD4 (And.intro (g2.out.2.kept hK4 (fun k hk he => by omega)) (And.intro (h3.out.1.kept hK4 (fun k hk he => by omega)) (((h3.out.2.mono (S' := fun k => w.heap.size ≤ k) (fun _ h => h.elim)).then_ hK4 (fun k hk => .inr (by omega))))))))
  clear hO4 hD4 hK4
  go_wp2_with fail
  refine (string_any h4.out.2.2.1).mono ?_
  rw [hI.out.2.1]
  rintro r w5 ⟨rfl, hD5, hK5⟩
  have h5 := Aside0.mk (And.intro (Kd.R_kept h4.out.1 hK5.kept (fun k hk he => by have := hk.1; omega)) (And.intro (h4.out.2.1.kept hK5 (fun k hk he => by omega)) (And.intro hD5 (And.intro (h4.out.2.2.2.1.kept hK5 (fun k hk he => by omega)) (h4.out.2.2.2.2.then_ hK5 (fun k hk => .inr (by omega)))))))
  clear hD5 hK5
  go_wp2_with fail
  refine (int_any h5.out.2.2.2.1).mono ?_
  rw [hI.out.2.2]
  rintro r w6 ⟨rfl, hD6, hK6⟩
  have h6 := Aside0.mk (And.intro (Kd.R_kept h5.out.1 hK6.kept (fun k hk he => by have := hk.1; omega)) (And.intro (h5.out.2.1.kept hK6 (fun k hk he => by omega)) (And.intro (h5.out.2.2.1.kept hK6 (fun k hk he => by omega)) (And.intro hD6 (h5.out.2.2.2.2.then_ hK6 (fun k hk => .inr (by omega)))))))
  clear hD6 hK6
  have hA := Aside0.mk (Kp.refl (fun _ => False) w6)
  go_wp2_with fail
  refine (err_any (Rdr.kept h6.out.2.1 hA.out (fun _ _ h => h))).mono ?_
  rintro r y1 ⟨rfl, rfl⟩
  go_wp2_with fail
  refine (aints_any 0 0 q.length c4 none A4 [] q _ (Kd.C_nil _ _) (Kd.C_below (by obtain ⟨_, _, h⟩ := Kd.R_reads' h6.out.1; exact h) hA.out.none_below) (fun y hy => by have := rdIs_I64 hX.out.2 y; rw [hI.out.1] at this; exact this hy) (by omega) (by omega)).mono ?_
  rintro r y2 ⟨v8, rfl, hR8, hK8⟩
  rw [List.nil_append, (hE.out.1).1] at hR8
  have hA2 := Aside0.mk (hA.out.then_ hK8 (fun _ h => h.elim))
  have hKb : Aside0 (Kp (fun k => w.heap.size ≤ k) w y2) := ⟨h6.out.2.2.2.2.then_ hA2.out (fun _ h => h.elim)⟩
  clear hA hK8
  obtain ⟨A8, c8, rfl, hc8, hC8⟩ := Kd.R_reads hR8
  have h8 := Aside0.mk hC8
  clear hR8 hC8
  go_wp2_with fail
  refine (len_any (Rdr.kept h6.out.2.1 hA2.out (fun _ _ h => h))).mono ?_
  rintro r y3 ⟨rfl, m3, rfl⟩
  have hle : r1.length ≤ b.length := (hE.out.1).2
  go_wp2_with fail
  refine (eqb_same (m := b) (n := b.length - r1.length) (by omega) (w := y2.drewN m3) h8.out (Kd.C_below hX.out.1 ((hKb.out.drewN m3).below (fun _ h => h))) hc8 hc (by omega)).mono ?_
  rintro r y4 ⟨rfl, m4, rfl⟩
  have hA := Aside0.mk (hA2.out.drewN (m3 + m4))
  clear hA2 hKb h8 hc8 hle
  go_wp2_with fail
  refine (err_any (Rdr.kept h6.out.2.2.1 hA.out (fun _ _ h => h))).mono ?_
  rintro r y1 ⟨rfl, rfl⟩
  go_wp2_with fail
  refine (err_any (Rdr.kept h6.out.2.2.2.1 hA.out (fun _ _ h => h))).mono ?_
  rintro r y1 ⟨rfl, rfl⟩
  go_wp2_with (go_at_call 11; refine (works_any _).mono ?_; rintro r w99 ⟨rfl, hB⟩)
  go_ret
  have hK := h6.out.2.2.2.2.then_ hA.out (fun _ h => h.elim)
  exact ⟨rfl, below_then (hK.below (fun _ h => h)) hK.size hB⟩

set_option maxRecDepth 100000 in
set_option maxHeartbeats 2000000 in
theorem can_nyy (A : Option Addr) (c : Nat) (b : List Int) (w : World) (q r1 x r2 r3 : List Int) (n f1 f2 f3 : Int)
    (hX : Aside0 (Kd.C Byt w A b.length b ∧ Bs b)) (hc : b.length ≤ c) (d0 : decide ((300 : Int) < b.length) = false) (hbl : b.length ≤ 300)
    (hI : Aside0 (rdIs b 0 = (q, r1, f1) ∧ rdS b 0 = (x, r2, f2) ∧ rdI b 0 = (n, r3, f3)))
    (hE : Aside0 ((True) ∧ (encS (strOfNums x) = b.take (b.length - r2.length) ∧ r2.length ≤ b.length) ∧ (encI n = b.take (b.length - r3.length) ∧ r3.length ≤ b.length))) (d1 : (f1 == 0) = false) (d2 : f2 = 0) (d3 : f3 = 0) :
    Calls Try.prog 8 #[.slice A b.length c] w fun e w' => e = .returned (.bool true) ∧ Below w.heap.size w w' := by
  subst d2
  subst d3
  have hql : q.length ≤ 300 := by have := rdIs_len b; rw [hI.out.1] at this; simp only at this; omega
  have hxl : x.length ≤ 300 := by have := rdS_len b; rw [hI.out.2.1] at this; simp only at this; omega
  have hxs := strsize x
  go_enter Try.func8, Try.ntmps8
  go_wp2_with fail
  refine (new_any b.length c A b w hX.out.1 hX.out.2 (by omega)).mono ?_
  rintro r w1 ⟨p1, rfl, hD1, hK1⟩
  have h1 := Aside0.mk (And.intro hD1.bound hK1)
  clear hD1 hK1
  go_wp2_with fail
  refine (new_any b.length c A b w1 (Kd.C_below hX.out.1 h1.out.2.none_below) hX.out.2 (by omega)).mono ?_
  rintro r w2 ⟨p2, rfl, hD2, hK2⟩
  have h2 := Aside0.mk (And.intro hD2.bound (h1.out.2.then_ hK2 (fun _ h => h.elim)))
  have g1 := Aside0.mk (h1.out.1.step (w1 := w2) (fun k hk hlt => hK2.block hlt (fun h => h)))
  clear hD2 hK2
  go_wp2_with fail
  refine (new_any b.length c A b w2 (Kd.C_below hX.out.1 h2.out.2.none_below) hX.out.2 (by omega)).mono ?_
  rintro r w3 ⟨p3, rfl, hD3, hK3⟩
  have h3 := Aside0.mk (And.intro hD3.bound (h2.out.2.then_ hK3 (fun _ h => h.elim)))
  have g2 := Aside0.mk (And.intro (g1.out.step (w1 := w3) (fun k hk hlt => hK3.block hlt (fun h => h))) (h2.out.1.step (w1 := w3) (fun k hk hlt => hK3.block hlt (fun h => h))))
  clear hD3 hK3 g1
  have z1 := h1.out.1.okp
  have z2 := h2.out.1.okp
  have z3 := h3.out.1.okp
  have s1 := h1.out.2.size
  go_wp2_with fail
  refine (ints_any g2.out.1).mono ?_
  rw [hI.out.1]
  rintro r w4 ⟨v4, rfl, hO4, hD4, hK4⟩
  have hO4 := Kd.R_bound hO4
  obtain ⟨A4, c4, rfl, hc4, _⟩ := Kd.R_reads hO4
  have h4 := Aside0.mk (And.intro hO4 (And.intro hD4 (And.intro (g2.out.2.kept hK4 (fun k hk he => by omega)) (And.intro (h3.out.1.kept hK4 (fun k hk he => by omega)) (((h3.out.2.mono (S' := fun k => w.heap.size ≤ k) (fun _ h => h.elim)).then_ hK4 (fun k hk => .inr (by omega))))))))
  clear hO4 hD4 hK4
  go_wp2_with fail
  refine (string_any h4.out.2.2.1).mono ?_
  rw [hI.out.2.1]
  rintro r w5 ⟨rfl, hD5, hK5⟩
  have h5 := Aside0.mk (And.intro (Kd.R_kept h4.out.1 hK5.kept (fun k hk he => by have := hk.1; omega)) (And.intro (h4.out.2.1.kept hK5 (fun k hk he => by omega)) (And.intro hD5 (And.intro (h4.out.2.2.2.1.kept hK5 (fun k hk he => by omega)) (h4.out.2.2.2.2.then_ hK5 (fun k hk => .inr (by omega)))))))
  clear hD5 hK5
  go_wp2_with fail
  refine (int_any h5.out.2.2.2.1).mono ?_
  rw [hI.out.2.2]
  rintro r w6 ⟨rfl, hD6, hK6⟩
  have h6 := Aside0.mk (And.intro (Kd.R_kept h5.out.1 hK6.kept (fun k hk he => by have := hk.1; omega)) (And.intro (h5.out.2.1.kept hK6 (fun k hk he => by omega)) (And.intro (h5.out.2.2.1.kept hK6 (fun k hk he => by omega)) (And.intro hD6 (h5.out.2.2.2.2.then_ hK6 (fun k hk => .inr (by omega)))))))
  clear hD6 hK6
  have hA := Aside0.mk (Kp.refl (fun _ => False) w6)
  go_wp2_with fail
  refine (err_any (Rdr.kept h6.out.2.1 hA.out (fun _ _ h => h))).mono ?_
  rintro r y1 ⟨rfl, rfl⟩
  go_wp2_with fail
  refine (err_any (Rdr.kept h6.out.2.2.1 hA.out (fun _ _ h => h))).mono ?_
  rintro r y1 ⟨rfl, rfl⟩
  go_wp2_with fail
  refine (astr_any 0 0 none [] (strOfNums x) _ (Kd.C_nil _ _) (by omega) (by omega)).mono ?_
  rintro r y2 ⟨v8, rfl, hR8, hK8⟩
  rw [List.nil_append, (hE.out.2.1).1] at hR8
  have hA2 := Aside0.mk (hA.out.then_ hK8 (fun _ h => h.elim))
  have hKb : Aside0 (Kp (fun k => w.heap.size ≤ k) w y2) := ⟨h6.out.2.2.2.2.then_ hA2.out (fun _ h => h.elim)⟩
  clear hA hK8
  obtain ⟨A8, c8, rfl, hc8, hC8⟩ := Kd.R_reads hR8
  have h8 := Aside0.mk hC8
  clear hR8 hC8
  go_wp2_with fail
  refine (len_any (Rdr.kept h6.out.2.2.1 hA2.out (fun _ _ h => h))).mono ?_
  rintro r y3 ⟨rfl, m3, rfl⟩
  have hle : r2.length ≤ b.length := (hE.out.2.1).2
  go_wp2_with fail
  refine (eqb_same (m := b) (n := b.length - r2.length) (by omega) (w := y2.drewN m3) h8.out (Kd.C_below hX.out.1 ((hKb.out.drewN m3).below (fun _ h => h))) hc8 hc (by omega)).mono ?_
  rintro r y4 ⟨rfl, m4, rfl⟩
  have hA := Aside0.mk (hA2.out.drewN (m3 + m4))
  clear hA2 hKb h8 hc8 hle
  go_wp2_with fail
  refine (err_any (Rdr.kept h6.out.2.2.2.1 hA.out (fun _ _ h => h))).mono ?_
  rintro r y1 ⟨rfl, rfl⟩
  go_wp2_with fail
  refine (aint_any 0 0 none [] n _ (Kd.C_nil _ _) (by have := rdI_I64 hX.out.2 0; rw [hI.out.2.2] at this; exact this) (by omega)).mono ?_
  rintro r y2 ⟨v8, rfl, hR8, hK8⟩
  rw [List.nil_append, (hE.out.2.2).1] at hR8
  have hA2 := Aside0.mk (hA.out.then_ hK8 (fun _ h => h.elim))
  have hKb : Aside0 (Kp (fun k => w.heap.size ≤ k) w y2) := ⟨h6.out.2.2.2.2.then_ hA2.out (fun _ h => h.elim)⟩
  clear hA hK8
  obtain ⟨A8, c8, rfl, hc8, hC8⟩ := Kd.R_reads hR8
  have h8 := Aside0.mk hC8
  clear hR8 hC8
  go_wp2_with fail
  refine (len_any (Rdr.kept h6.out.2.2.2.1 hA2.out (fun _ _ h => h))).mono ?_
  rintro r y3 ⟨rfl, m3, rfl⟩
  have hle : r3.length ≤ b.length := (hE.out.2.2).2
  go_wp2_with fail
  refine (eqb_same (m := b) (n := b.length - r3.length) (by omega) (w := y2.drewN m3) h8.out (Kd.C_below hX.out.1 ((hKb.out.drewN m3).below (fun _ h => h))) hc8 hc (by omega)).mono ?_
  rintro r y4 ⟨rfl, m4, rfl⟩
  have hA := Aside0.mk (hA2.out.drewN (m3 + m4))
  clear hA2 hKb h8 hc8 hle
  go_wp2_with (go_at_call 11; refine (works_any _).mono ?_; rintro r w99 ⟨rfl, hB⟩)
  go_ret
  have hK := h6.out.2.2.2.2.then_ hA.out (fun _ h => h.elim)
  exact ⟨rfl, below_then (hK.below (fun _ h => h)) hK.size hB⟩

set_option maxRecDepth 100000 in
set_option maxHeartbeats 2000000 in
theorem can_nyn (A : Option Addr) (c : Nat) (b : List Int) (w : World) (q r1 x r2 r3 : List Int) (n f1 f2 f3 : Int)
    (hX : Aside0 (Kd.C Byt w A b.length b ∧ Bs b)) (hc : b.length ≤ c) (d0 : decide ((300 : Int) < b.length) = false) (hbl : b.length ≤ 300)
    (hI : Aside0 (rdIs b 0 = (q, r1, f1) ∧ rdS b 0 = (x, r2, f2) ∧ rdI b 0 = (n, r3, f3)))
    (hE : Aside0 ((True) ∧ (encS (strOfNums x) = b.take (b.length - r2.length) ∧ r2.length ≤ b.length) ∧ (True))) (d1 : (f1 == 0) = false) (d2 : f2 = 0) (d3 : (f3 == 0) = false) :
    Calls Try.prog 8 #[.slice A b.length c] w fun e w' => e = .returned (.bool true) ∧ Below w.heap.size w w' := by
  subst d2
  have hql : q.length ≤ 300 := by have := rdIs_len b; rw [hI.out.1] at this; simp only at this; omega
  have hxl : x.length ≤ 300 := by have := rdS_len b; rw [hI.out.2.1] at this; simp only at this; omega
  have hxs := strsize x
  go_enter Try.func8, Try.ntmps8
  go_wp2_with fail
  refine (new_any b.length c A b w hX.out.1 hX.out.2 (by omega)).mono ?_
  rintro r w1 ⟨p1, rfl, hD1, hK1⟩
  have h1 := Aside0.mk (And.intro hD1.bound hK1)
  clear hD1 hK1
  go_wp2_with fail
  refine (new_any b.length c A b w1 (Kd.C_below hX.out.1 h1.out.2.none_below) hX.out.2 (by omega)).mono ?_
  rintro r w2 ⟨p2, rfl, hD2, hK2⟩
  have h2 := Aside0.mk (And.intro hD2.bound (h1.out.2.then_ hK2 (fun _ h => h.elim)))
  have g1 := Aside0.mk (h1.out.1.step (w1 := w2) (fun k hk hlt => hK2.block hlt (fun h => h)))
  clear hD2 hK2
  go_wp2_with fail
  refine (new_any b.length c A b w2 (Kd.C_below hX.out.1 h2.out.2.none_below) hX.out.2 (by omega)).mono ?_
  rintro r w3 ⟨p3, rfl, hD3, hK3⟩
  have h3 := Aside0.mk (And.intro hD3.bound (h2.out.2.then_ hK3 (fun _ h => h.elim)))
  have g2 := Aside0.mk (And.intro (g1.out.step (w1 := w3) (fun k hk hlt => hK3.block hlt (fun h => h))) (h2.out.1.step (w1 := w3) (fun k hk hlt => hK3.block hlt (fun h => h))))
  clear hD3 hK3 g1
  have z1 := h1.out.1.okp
  have z2 := h2.out.1.okp
  have z3 := h3.out.1.okp
  have s1 := h1.out.2.size
  go_wp2_with fail
  refine (ints_any g2.out.1).mono ?_
  rw [hI.out.1]
  rintro r w4 ⟨v4, rfl, hO4, hD4, hK4⟩
  have hO4 := Kd.R_bound hO4
  obtain ⟨A4, c4, rfl, hc4, _⟩ := Kd.R_reads hO4
  have h4 := Aside0.mk (And.intro hO4 (And.intro hD4 (And.intro (g2.out.2.kept hK4 (fun k hk he => by omega)) (And.intro (h3.out.1.kept hK4 (fun k hk he => by omega)) (((h3.out.2.mono (S' := fun k => w.heap.size ≤ k) (fun _ h => h.elim)).then_ hK4 (fun k hk => .inr (by omega))))))))
  clear hO4 hD4 hK4
  go_wp2_with fail
  refine (string_any h4.out.2.2.1).mono ?_
  rw [hI.out.2.1]
  rintro r w5 ⟨rfl, hD5, hK5⟩
  have h5 := Aside0.mk (And.intro (Kd.R_kept h4.out.1 hK5.kept (fun k hk he => by have := hk.1; omega)) (And.intro (h4.out.2.1.kept hK5 (fun k hk he => by omega)) (And.intro hD5 (And.intro (h4.out.2.2.2.1.kept hK5 (fun k hk he => by omega)) (h4.out.2.2.2.2.then_ hK5 (fun k hk => .inr (by omega)))))))
  clear hD5 hK5
  go_wp2_with fail
  refine (int_any h5.out.2.2.2.1).mono ?_
  rw [hI.out.2.2]
  rintro r w6 ⟨rfl, hD6, hK6⟩
  have h6 := Aside0.mk (And.intro (Kd.R_kept h5.out.1 hK6.kept (fun k hk he => by have := hk.1; omega)) (And.intro (h5.out.2.1.kept hK6 (fun k hk he => by omega)) (And.intro (h5.out.2.2.1.kept hK6 (fun k hk he => by omega)) (And.intro hD6 (h5.out.2.2.2.2.then_ hK6 (fun k hk => .inr (by omega)))))))
  clear hD6 hK6
  have hA := Aside0.mk (Kp.refl (fun _ => False) w6)
  go_wp2_with fail
  refine (err_any (Rdr.kept h6.out.2.1 hA.out (fun _ _ h => h))).mono ?_
  rintro r y1 ⟨rfl, rfl⟩
  go_wp2_with fail
  refine (err_any (Rdr.kept h6.out.2.2.1 hA.out (fun _ _ h => h))).mono ?_
  rintro r y1 ⟨rfl, rfl⟩
  go_wp2_with fail
  refine (astr_any 0 0 none [] (strOfNums x) _ (Kd.C_nil _ _) (by omega) (by omega)).mono ?_
  rintro r y2 ⟨v8, rfl, hR8, hK8⟩
  rw [List.nil_append, (hE.out.2.1).1] at hR8
  have hA2 := Aside0.mk (hA.out.then_ hK8 (fun _ h => h.elim))
  have hKb : Aside0 (Kp (fun k => w.heap.size ≤ k) w y2) := ⟨h6.out.2.2.2.2.then_ hA2.out (fun _ h => h.elim)⟩
  clear hA hK8
  obtain ⟨A8, c8, rfl, hc8, hC8⟩ := Kd.R_reads hR8
  have h8 := Aside0.mk hC8
  clear hR8 hC8
  go_wp2_with fail
  refine (len_any (Rdr.kept h6.out.2.2.1 hA2.out (fun _ _ h => h))).mono ?_
  rintro r y3 ⟨rfl, m3, rfl⟩
  have hle : r2.length ≤ b.length := (hE.out.2.1).2
  go_wp2_with fail
  refine (eqb_same (m := b) (n := b.length - r2.length) (by omega) (w := y2.drewN m3) h8.out (Kd.C_below hX.out.1 ((hKb.out.drewN m3).below (fun _ h => h))) hc8 hc (by omega)).mono ?_
  rintro r y4 ⟨rfl, m4, rfl⟩
  have hA := Aside0.mk (hA2.out.drewN (m3 + m4))
  clear hA2 hKb h8 hc8 hle
  go_wp2_with fail
  refine (err_any (Rdr.kept h6.out.2.2.2.1 hA.out (fun _ _ h => h))).mono ?_
  rintro r y1 ⟨rfl, rfl⟩
  go_wp2_with (go_at_call 11; refine (works_any _).mono ?_; rintro r w99 ⟨rfl, hB⟩)
  go_ret
  have hK := h6.out.2.2.2.2.then_ hA.out (fun _ h => h.elim)
  exact ⟨rfl, below_then (hK.below (fun _ h => h)) hK.size hB⟩

set_option maxRecDepth 100000 in
set_option maxHeartbeats 2000000 in
theorem can_nny (A : Option Addr) (c : Nat) (b : List Int) (w : World) (q r1 x r2 r3 : List Int) (n f1 f2 f3 : Int)
    (hX : Aside0 (Kd.C Byt w A b.length b ∧ Bs b)) (hc : b.length ≤ c) (d0 : decide ((300 : Int) < b.length) = false) (hbl : b.length ≤ 300)
    (hI : Aside0 (rdIs b 0 = (q, r1, f1) ∧ rdS b 0 = (x, r2, f2) ∧ rdI b 0 = (n, r3, f3)))
    (hE : Aside0 ((True) ∧ (True) ∧ (encI n = b.take (b.length - r3.length) ∧ r3.length ≤ b.length))) (d1 : (f1 == 0) = false) (d2 : (f2 == 0) = false) (d3 : f3 = 0) :
    Calls Try.prog 8 #[.slice A b.length c] w fun e w' => e = .returned (.bool true) ∧ Below w.heap.size w w' := by
  subst d3
  have hql : q.length ≤ 300 := by have := rdIs_len b; rw [hI.out.1] at this; simp only at this; omega
  have hxl : x.length ≤ 300 := by have := rdS_len b; rw [hI.out.2.1] at this; simp only at this; omega
  have hxs := strsize x
  go_enter Try.func8, Try.ntmps8
  go_wp2_with fail
  refine (new_any b.length c A b w hX.out.1 hX.out.2 (by omega)).mono ?_
  rintro r w1 ⟨p1, rfl, hD1, hK1⟩
  have h1 := Aside0.mk (And.intro hD1.bound hK1)
  clear hD1 hK1
  go_wp2_with fail
  refine (new_any b.length c A b w1 (Kd.C_below hX.out.1 h1.out.2.none_below) hX.out.2 (by omega)).mono ?_
  rintro r w2 ⟨p2, rfl, hD2, hK2⟩
  have h2 := Aside0.mk (And.intro hD2.bound (h1.out.2.then_ hK2 (fun _ h => h.elim)))
  have g1 := Aside0.mk (h1.out.1.step (w1 := w2) (fun k hk hlt => hK2.block hlt (fun h => h)))
  clear hD2 hK2
  go_wp2_with fail
  refine (new_any b.length c A b w2 (Kd.C_below hX.out.1 h2.out.2.none_below) hX.out.2 (by omega)).mono ?_
  rintro r w3 ⟨p3, rfl, hD3, hK3⟩
  have h3 := Aside0.mk (And.intro hD3.bound (h2.out.2.then_ hK3 (fun _ h => h.elim)))
  have g2 := Aside0.mk (And.intro (g1.out.step (w1 := w3) (fun k hk hlt => hK3.block hlt (fun h => h))) (h2.out.1.step (w1 := w3) (fun k hk hlt => hK3.block hlt (fun h => h))))
  clear hD3 hK3 g1
  have z1 := h1.out.1.okp
  have z2 := h2.out.1.okp
  have z3 := h3.out.1.okp
  have s1 := h1.out.2.size
  go_wp2_with fail
  refine (ints_any g2.out.1).mono ?_
  rw [hI.out.1]
  rintro r w4 ⟨v4, rfl, hO4, hD4, hK4⟩
  have hO4 := Kd.R_bound hO4
  obtain ⟨A4, c4, rfl, hc4, _⟩ := Kd.R_reads hO4
  have h4 := Aside0.mk (And.intro hO4 (And.intro hD4 (And.intro (g2.out.2.kept hK4 (fun k hk he => by omega)) (And.intro (h3.out.1.kept hK4 (fun k hk he => by omega)) (((h3.out.2.mono (S' := fun k => w.heap.size ≤ k) (fun _ h => h.elim)).then_ hK4 (fun k hk => .inr (by omega))))))))
  clear hO4 hD4 hK4
  go_wp2_with fail
  refine (string_any h4.out.2.2.1).mono ?_
  rw [hI.out.2.1]
  rintro r w5 ⟨rfl, hD5, hK5⟩
  have h5 := Aside0.mk (And.intro (Kd.R_kept h4.out.1 hK5.kept (fun k hk he => by have := hk.1; omega)) (And.intro (h4.out.2.1.kept hK5 (fun k hk he => by omega)) (And.intro hD5 (And.intro (h4.out.2.2.2.1.kept hK5 (fun k hk he => by omega)) (h4.out.2.2.2.2.then_ hK5 (fun k hk => .inr (by omega)))))))
  clear hD5 hK5
  go_wp2_with fail
  refine (int_any h5.out.2.2.2.1).mono ?_
  rw [hI.out.2.2]
  rintro r w6 ⟨rfl, hD6, hK6⟩
  have h6 := Aside0.mk (And.intro (Kd.R_kept h5.out.1 hK6.kept (fun k hk he => by have := hk.1; omega)) (And.intro (h5.out.2.1.kept hK6 (fun k hk he => by omega)) (And.intro (h5.out.2.2.1.kept hK6 (fun k hk he => by omega)) (And.intro hD6 (h5.out.2.2.2.2.then_ hK6 (fun k hk => .inr (by omega)))))))
  clear hD6 hK6
  have hA := Aside0.mk (Kp.refl (fun _ => False) w6)
  go_wp2_with fail
  refine (err_any (Rdr.kept h6.out.2.1 hA.out (fun _ _ h => h))).mono ?_
  rintro r y1 ⟨rfl, rfl⟩
  go_wp2_with fail
  refine (err_any (Rdr.kept h6.out.2.2.1 hA.out (fun _ _ h => h))).mono ?_
  rintro r y1 ⟨rfl, rfl⟩
  go_wp2_with fail
  refine (err_any (Rdr.kept h6.out.2.2.2.1 hA.out (fun _ _ h => h))).mono ?_
  rintro r y1 ⟨rfl, rfl⟩
  go_wp2_with fail
  refine (aint_any 0 0 none [] n _ (Kd.C_nil _ _) (by have := rdI_I64 hX.out.2 0; rw [hI.out.2.2] at this; exact this) (by omega)).mono ?_
  rintro r y2 ⟨v8, rfl, hR8, hK8⟩
  rw [List.nil_append, (hE.out.2.2).1] at hR8
  have hA2 := Aside0.mk (hA.out.then_ hK8 (fun _ h => h.elim))
  have hKb : Aside0 (Kp (fun k => w.heap.size ≤ k) w y2) := ⟨h6.out.2.2.2.2.then_ hA2.out (fun _ h => h.elim)⟩
  clear hA hK8
  obtain ⟨A8, c8, rfl, hc8, hC8⟩ := Kd.R_reads hR8
  have h8 := Aside0.mk hC8
  clear hR8 hC8
  go_wp2_with fail
  refine (len_any (Rdr.kept h6.out.2.2.2.1 hA2.out (fun _ _ h => h))).mono ?_
  rintro r y3 ⟨rfl, m3, rfl⟩
  have hle : r3.length ≤ b.length := (hE.out.2.2).2
  go_wp2_with fail
  refine (eqb_same (m := b) (n := b.length - r3.length) (by omega) (w := y2.drewN m3) h8.out (Kd.C_below hX.out.1 ((hKb.out.drewN m3).below (fun _ h => h))) hc8 hc (by omega)).mono ?_
  rintro r y4 ⟨rfl, m4, rfl⟩
  have hA := Aside0.mk (hA2.out.drewN (m3 + m4))
  clear hA2 hKb h8 hc8 hle
  go_wp2_with (go_at_call 11; refine (works_any _).mono ?_; rintro r w99 ⟨rfl, hB⟩)
  go_ret
  have hK := h6.out.2.2.2.2.then_ hA.out (fun _ h => h.elim)
  exact ⟨rfl, below_then (hK.below (fun _ h => h)) hK.size hB⟩

set_option maxRecDepth 100000 in
set_option maxHeartbeats 2000000 in
theorem can_nnn (A : Option Addr) (c : Nat) (b : List Int) (w : World) (q r1 x r2 r3 : List Int) (n f1 f2 f3 : Int)
    (hX : Aside0 (Kd.C Byt w A b.length b ∧ Bs b)) (hc : b.length ≤ c) (d0 : decide ((300 : Int) < b.length) = false) (hbl : b.length ≤ 300)
    (hI : Aside0 (rdIs b 0 = (q, r1, f1) ∧ rdS b 0 = (x, r2, f2) ∧ rdI b 0 = (n, r3, f3)))
    (hE : Aside0 ((True) ∧ (True) ∧ (True))) (d1 : (f1 == 0) = false) (d2 : (f2 == 0) = false) (d3 : (f3 == 0) = false) :
    Calls Try.prog 8 #[.slice A b.length c] w fun e w' => e = .returned (.bool true) ∧ Below w.heap.size w w' := by
  have hql : q.length ≤ 300 := by have := rdIs_len b; rw [hI.out.1] at this; simp only at this; omega
  have hxl : x.length ≤ 300 := by have := rdS_len b; rw [hI.out.2.1] at this; simp only at this; omega
  have hxs := strsize x
  go_enter Try.func8, Try.ntmps8
  go_wp2_with fail
  refine (new_any b.length c A b w hX.out.1 hX.out.2 (by omega)).mono ?_
  rintro r w1 ⟨p1, rfl, hD1, hK1⟩
  have h1 := Aside0.mk (And.intro hD1.bound hK1)
  clear hD1 hK1
  go_wp2_with fail
  refine (new_any b.length c A b w1 (Kd.C_below hX.out.1 h1.out.2.none_below) hX.out.2 (by omega)).mono ?_
  rintro r w2 ⟨p2, rfl, hD2, hK2⟩
  have h2 := Aside0.mk (And.intro hD2.bound (h1.out.2.then_ hK2 (fun _ h => h.elim)))
  have g1 := Aside0.mk (h1.out.1.step (w1 := w2) (fun k hk hlt => hK2.block hlt (fun h => h)))
  clear hD2 hK2
  go_wp2_with fail
  refine (new_any b.length c A b w2 (Kd.C_below hX.out.1 h2.out.2.none_below) hX.out.2 (by omega)).mono ?_
  rintro r w3 ⟨p3, rfl, hD3, hK3⟩
  have h3 := Aside0.mk (And.intro hD3.bound (h2.out.2.then_ hK3 (fun _ h => h.elim)))
  have g2 := Aside0.mk (And.intro (g1.out.step (w1 := w3) (fun k hk hlt => hK3.block hlt (fun h => h))) (h2.out.1.step (w1 := w3) (fun k hk hlt => hK3.block hlt (fun h => h))))
  clear hD3 hK3 g1
  have z1 := h1.out.1.okp
  have z2 := h2.out.1.okp
  have z3 := h3.out.1.okp
  have s1 := h1.out.2.size
  go_wp2_with fail
  refine (ints_any g2.out.1).mono ?_
  rw [hI.out.1]
  rintro r w4 ⟨v4, rfl, hO4, hD4, hK4⟩
  have hO4 := Kd.R_bound hO4
  obtain ⟨A4, c4, rfl, hc4, _⟩ := Kd.R_reads hO4
  have h4 := Aside0.mk (And.intro hO4 (And.intro hD4 (And.intro (g2.out.2.kept hK4 (fun k hk he => by omega)) (And.intro (h3.out.1.kept hK4 (fun k hk he => by omega)) (((h3.out.2.mono (S' := fun k => w.heap.size ≤ k) (fun _ h => h.elim)).then_ hK4 (fun k hk => .inr (by omega))))))))
  clear hO4 hD4 hK4
  go_wp2_with fail
  refine (string_any h4.out.2.2.1).mono ?_
  rw [hI.out.2.1]
  rintro r w5 ⟨rfl, hD5, hK5⟩
  have h5 := Aside0.mk (And.intro (Kd.R_kept h4.out.1 hK5.kept (fun k hk he => by have := hk.1; omega)) (And.intro (h4.out.2.1.kept hK5 (fun k hk he => by omega)) (And.intro hD5 (And.intro (h4.out.2.2.2.1.kept hK5 (fun k hk he => by omega)) (h4.out.2.2.2.2.then_ hK5 (fun k hk => .inr (by omega)))))))
  clear hD5 hK5
  go_wp2_with fail
  refine (int_any h5.out.2.2.2.1).mono ?_
  rw [hI.out.2.2]
  rintro r w6 ⟨rfl, hD6, hK6⟩
  have h6 := Aside0.mk (And.intro (Kd.R_kept h5.out.1 hK6.kept (fun k hk he => by have := hk.1; omega)) (And.intro (h5.out.2.1.kept hK6 (fun k hk he => by omega)) (And.intro (h5.out.2.2.1.kept hK6 (fun k hk he => by omega)) (And.intro hD6 (h5.out.2.2.2.2.then_ hK6 (fun k hk => .inr (by omega)))))))
  clear hD6 hK6
  have hA := Aside0.mk (Kp.refl (fun _ => False) w6)
  go_wp2_with fail
  refine (err_any (Rdr.kept h6.out.2.1 hA.out (fun _ _ h => h))).mono ?_
  rintro r y1 ⟨rfl, rfl⟩
  go_wp2_with fail
  refine (err_any (Rdr.kept h6.out.2.2.1 hA.out (fun _ _ h => h))).mono ?_
  rintro r y1 ⟨rfl, rfl⟩
  go_wp2_with fail
  refine (err_any (Rdr.kept h6.out.2.2.2.1 hA.out (fun _ _ h => h))).mono ?_
  rintro r y1 ⟨rfl, rfl⟩
  go_wp2_with (go_at_call 11; refine (works_any _).mono ?_; rintro r w99 ⟨rfl, hB⟩)
  go_ret
  have hK := h6.out.2.2.2.2.then_ hA.out (fun _ h => h.elim)
  exact ⟨rfl, below_then (hK.below (fun _ h => h)) hK.size hB⟩

theorem app_facts {b a r : List Int} (h : b = a ++ r) : a = b.take (b.length - r.length) ∧ r.length ≤ b.length :=
  ⟨(take_of_app h).symm, by rw [h, List.length_append]; omega⟩
theorem can_walk (A : Option Addr) (c : Nat) (b : List Int) (w : World) (hc : b.length ≤ c) (hC : Kd.C Byt w A b.length b) (hg : b.length * 1 ≤ 140737488351232 ∧ ∀ x ∈ b, (Lit.int .u8 x).wf = true) :
    Calls Try.prog 8 #[.slice A b.length c] w fun e w' => e = .returned (.bool true) ∧ Below w.heap.size w w' := by
  have hb := wf_u8 hg.2
  have hgl := hg.1
  have hX := Aside0.mk (And.intro hC hb)
  clear hg hC
  by_cases e1 : 300 < b.length
  · have d1 : decide ((300 : Int) < b.length) = true := by simp; omega
    clear hb
    go_enter Try.func8, Try.ntmps8
    go_wp2_with (go_at_call 11; refine (works_any _).mono ?_; rintro r w1 ⟨rfl, hB⟩)
    go_ret
    exact ⟨rfl, hB⟩
  have d0 : decide ((300 : Int) < b.length) = false := by simp; omega
  obtain ⟨q, r1, f1, hI⟩ : ∃ q r f, rdIs b 0 = (q, r, f) := ⟨_, _, _, rfl⟩
  obtain ⟨x, r2, f2, hS⟩ : ∃ q r f, rdS b 0 = (q, r, f) := ⟨_, _, _, rfl⟩
  obtain ⟨n, r3, f3, hN⟩ : ∃ q r f, rdI b 0 = (q, r, f) := ⟨_, _, _, rfl⟩
  have E1 : f1 = 0 → encL q = b.take (b.length - r1.length) ∧ r1.length ≤ b.length := fun h => by
    subst h
    have := rdIs_back hb (by rw [hI])
    rw [hI] at this
    exact app_facts this
  have E2 : f2 = 0 → encS (strOfNums x) = b.take (b.length - r2.length) ∧ r2.length ≤ b.length := fun h => by
    subst h
    have h2 := rdS_back hb (by rw [hS])
    have hxb := rdS_Bs hb
    rw [hS] at h2 hxb
    simp only at h2 hxb
    refine app_facts ?_
    rw [encS, strsize, bytes_of_str hxb, List.append_assoc]
    exact h2
  have E3 : f3 = 0 → encI n = b.take (b.length - r3.length) ∧ r3.length ≤ b.length := fun h => by
    subst h
    exact app_facts (enc_rdI hb hN).1
  have hI3 := Aside0.mk (And.intro hI (And.intro hS hN))
  have nz : ∀ f : Int, ¬ f = 0 → (f == 0) = false := fun f h => by simpa using h
  by_cases c1 : f1 = 0 <;> by_cases c2 : f2 = 0 <;> by_cases c3 : f3 = 0
  · exact can_yyy A c b w q r1 x r2 r3 n f1 f2 f3 hX hc d0 (by omega) hI3 ⟨⟨E1 c1, E2 c2, E3 c3⟩⟩ c1 c2 c3
  · exact can_yyn A c b w q r1 x r2 r3 n f1 f2 f3 hX hc d0 (by omega) hI3 ⟨⟨E1 c1, E2 c2, trivial⟩⟩ c1 c2 (nz _ c3)
  · exact can_yny A c b w q r1 x r2 r3 n f1 f2 f3 hX hc d0 (by omega) hI3 ⟨⟨E1 c1, trivial, E3 c3⟩⟩ c1 (nz _ c2) c3
  · exact can_ynn A c b w q r1 x r2 r3 n f1 f2 f3 hX hc d0 (by omega) hI3 ⟨⟨E1 c1, trivial, trivial⟩⟩ c1 (nz _ c2) (nz _ c3)
  · exact can_nyy A c b w q r1 x r2 r3 n f1 f2 f3 hX hc d0 (by omega) hI3 ⟨⟨trivial, E2 c2, E3 c3⟩⟩ (nz _ c1) c2 c3
  · exact can_nyn A c b w q r1 x r2 r3 n f1 f2 f3 hX hc d0 (by omega) hI3 ⟨⟨trivial, E2 c2, trivial⟩⟩ (nz _ c1) c2 (nz _ c3)
  · exact can_nny A c b w q r1 x r2 r3 n f1 f2 f3 hX hc d0 (by omega) hI3 ⟨⟨trivial, trivial, E3 c3⟩⟩ (nz _ c1) (nz _ c2) c3
  · exact can_nnn A c b w q r1 x r2 r3 n f1 f2 f3 hX hc d0 (by omega) hI3 ⟨⟨trivial, trivial, trivial⟩⟩ (nz _ c1) (nz _ c2) (nz _ c3)
end Go.Proofs.Ytjcekelmbpenkaa
