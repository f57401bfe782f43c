/- The program's reader: many, Ints, String, NewReader. -/
import Derived.Test.YtjcekelmbpenkaaVarG
set_option linter.unusedVariables false
set_option linter.unusedSimpArgs false
namespace Go.Proofs.Ytjcekelmbpenkaa
open Go.RowKit Go.Proofs.YtjcekelmbpenkaaW.PrintWords Mem VarPure

abbrev KI := Kd.int .i64
theorem info3 : (Try.prog.info? 3).map (fun i => (i.zero, i.size, i.bytes)) = some (some (.int .i64 0), 1, 8) := by kernel_rfl
theorem R_shape {α : Type} {d : Kd α} {e : Nat} {w : World} {ok : Nat → Prop} {v : Value} {xs : List α} (h : d.R e w 0 ok v xs) {b : Nat} (hb : v.ownBlock = some b) : ∃ cap, v = .slice (some ⟨b, 0, none⟩) xs.length cap := by
  obtain ⟨h0, inner, ho, hr⟩ := h
  rcases ho.2 with ⟨rfl, hz⟩ | ⟨g, cap, cur, rfl, _, hh, _⟩
  · simp [Value.ownBlock] at hb
  · obtain rfl : g = b := by simpa [Value.ownBlock] using hb
    exact ⟨cap, rfl⟩
theorem set_app (a : List Int) (j k : Nat) (x : Int) (hj : a.length = j) (hk : j < k) : (a ++ List.replicate (k - j) 0).set j x = (a ++ [x]) ++ List.replicate (k - (j + 1)) 0 := by
  obtain ⟨m, rfl⟩ : ∃ m, k = j + 1 + m := ⟨k - j - 1, by omega⟩
  rw [show j + 1 + m - j = m + 1 by omega, show j + 1 + m - (j + 1) = m by omega, List.replicate_succ, List.set_append_right _ _ (by omega), hj, Nat.sub_self, List.set_cons_zero]
  simp

set_option maxHeartbeats 1000000 in
theorem many_any {w : World} {ok : Nat → Prop} {p : Nat} {l : List Int} {f : Int} (k : Nat) (hR : Rdr w ok p l f) (hk : k ≤ 100000) :
    Calls Try.prog 39 #[.int .i64 k, .func (.func 34) #[.pointer (some ⟨p, 0, none⟩)] #[]] w fun e w' => ∃ v, e = .returned v ∧ Kd.R KI 3 w' 0 (fun j => w.heap.size ≤ j) v (rdN k l f).1 ∧ Rdr w' ok p (rdN k l f).2.1 (rdN k l f).2.2 ∧ Kp (fun j => j = p) w w' := by
  have hB := Aside0.mk hR.bound
  have hpl := hR.lt
  clear hR
  go_enter Try.func39, Try.ntmps39
  go_wp2_with (refine Kd.R_make KI (w0 := w) 0 3 (by rfl) (N := 8) (by rfl) 27 (.tmp 7) (.tmp 7) (by rfl) (k : Int) (by rfl) (by rfl) Try.underlying27 (.int .i64 0) 8 info3 rfl (by decide) (by decide) (0 : Int) (ok := fun j => j = w.heap.size) (okp := fun _ => False) rfl (fun _ h => h.elim) rfl (by omega) (by simp; omega) (Below.refl _ _) (Nat.zero_le _) ?_; intro v1 w1 hR1 hb1 hg1 hat; obtain ⟨g, hg, hgw⟩ := hat; obtain ⟨cap, rfl⟩ := R_shape hR1 hg; have h1 : Aside0 (Kd.R KI 3 w1 0 (fun j => j = w.heap.size) (.slice (some ⟨g, 0, none⟩) k cap) (List.replicate k 0) ∧ Kp (fun _ => False) w w1) := ⟨by simpa using hR1, (Kp.refl _ w).grown hg1 (fun _ h => by cases h)⟩; obtain rfl := h1.out.1.1 g rfl; clear hR1 hb1 hg1 hg hgw)
  go_loopw [11] (fun v wr => ∃ j : Nat, j ≤ k ∧ v = .int .i64 j ∧ Aside0 (Rdr wr (fun k => ok k ∧ k < w.heap.size) p (rdN j l f).2.1 (rdN j l f).2.2) ∧
      Aside0 (Kd.R KI 3 wr 0 (fun j => j = w.heap.size) (.slice (some ⟨w.heap.size, 0, none⟩) k cap) ((rdN j l f).1 ++ List.replicate (k - j) 0)) ∧ Aside0 (Kp (fun j => j = p) w wr)) (fun v _ => k - (intOf v).toNat)
  case atStart =>
    exact ⟨0, Nat.zero_le _, rfl, ⟨hB.out.step (fun i hi hlt => h1.out.2.block hlt (fun h => h))⟩, ⟨by simpa [rdN] using h1.out.1⟩, ⟨h1.out.2.mono (fun _ h => h.elim)⟩⟩
  case round =>
    obtain ⟨j, hj, rfl, hD, hO, hK⟩ := hrel
    by_cases hlt : j < k
    · go_wp2_with (go_at_call 34; refine (number_any hD.out).mono ?_; rintro r w2 ⟨rfl, hD2, hK2⟩; have hO2 : Aside0 (Kd.R KI 3 w2 0 (fun j => j = w.heap.size) (.slice (some ⟨w.heap.size, 0, none⟩) k cap) ((rdN j l f).1 ++ List.replicate (k - j) 0)) := ⟨Kd.R_kept hO.out hK2.kept (fun i hi he => by omega)⟩; obtain ⟨c1, c2⟩ := Kd.R_celln (0 : Int) hO2.out (j : Int) (by omega) (by omega); simp only [Int.toNat_natCast] at c1 c2; have hD2' := Aside0.mk hD2; have hK2' := Aside0.mk hK2; clear hD2 hK2)
      go_roundw
      case rel =>
        refine ⟨j + 1, by omega, by go_num, ⟨?_⟩, ⟨?_⟩, ⟨?_⟩⟩
        · rw [rdN_snoc]
          exact hD2'.out.step (fun i hi hlt => Below.heap_setCell _ _ _ i (fun e => by have := hi.2; simp at e; omega))
        · have := Kd.R_putn hO2.out j (rdI (rdN j l f).2.1 (rdN j l f).2.2).1
          rw [rdN_snoc]
          rw [Int.toNat_natCast, set_app _ _ _ _ (rdN_len _ _ _) hlt] at this
          exact this
        · exact (hK.out.then_ hK2'.out (fun i hi => .inl hi)).setCell (.inr (Nat.le_refl _)) _
      case measure => simp [intOf]; omega
    · obtain rfl : j = k := by omega
      go_wp2
      go_ret
      refine ⟨_, rfl, ?_, hD.out.mono (fun i hi => hi.1), hK.out⟩
      have := hO.out
      rw [Nat.sub_self, List.replicate_zero, List.append_nil] at this
      exact Kd.R_mono this (fun i hi => by omega)

set_option maxHeartbeats 1000000 in
theorem ints_any {w : World} {ok : Nat → Prop} {p : Nat} {l : List Int} {f : Int} (hR : Rdr w ok p l f) :
    Calls Try.prog 17 #[.pointer (some ⟨p, 0, none⟩)] w fun e w' => ∃ v, e = .returned v ∧ Kd.R KI 3 w' 0 (fun j => w.heap.size ≤ j) v (rdIs l f).1 ∧ Rdr w' ok p (rdIs l f).2.1 (rdIs l f).2.2 ∧ Kp (fun j => j = p) w w' := by
  have hD := Aside0.mk hR
  have hL : Aside0 ((rdL l f).1 ≤ 100000) := ⟨by have := rdL_le l f; have := hR.bs.2; omega⟩
  clear hR
  have hgo : ∀ w1, Rdr w1 ok p (rdL l f).2.1 (rdL l f).2.2 → _ := fun w1 h1 => many_any (rdL l f).1 h1 hL.out
  have hgo' := Aside0.mk hgo
  clear hgo
  obtain ⟨f2, hf2⟩ : ∃ x, x = (rdIs l f).2.2 := ⟨_, rfl⟩
  have hf2' := Aside0.mk hf2
  by_cases cf : f2 = 0
  · subst cf
    clear hf2
    go_enter Try.func17, Try.ntmps17
    go_wp2_with (first
      | (go_at_call 33; refine (okr hD.out).mono ?_; rintro r w1 ⟨rfl, rfl⟩))
    go_region_held3 (fun _ => True) (first | trivial | go_keep) (first
      | (go_at_call 40; refine (length_any (w := w1.drewN 1) (hD.out.step (fun _ _ _ => rfl))).mono ?_; rintro r wa ⟨rfl, hDa, hKa⟩)
      | (go_at_call 39; refine (hgo'.out wa hDa).mono ?_; rintro r wb ⟨v, rfl, hOb, hDb, hKb⟩; have k2 := fail_at hDb; rw [show (rdN (rdL l f).1 (rdL l f).2.1 (rdL l f).2.2).2.2 = 0 from hf2'.out.symm] at k2))
    all_goals try go_wp2
    all_goals go_ret
    all_goals
      have e : rdIs l f = ((rdN (rdL l f).1 (rdL l f).2.1 (rdL l f).2.2).1, (rdN (rdL l f).1 (rdL l f).2.1 (rdL l f).2.2).2) := by
        have h0 := hf2'.out
        rw [rdIs] at h0 ⊢
        simp only at h0 ⊢
        rw [if_neg (by rw [← h0]; simp)]
      rw [e]
      have hsz : w1.heap.size ≤ wa.heap.size := hKa.size
      exact ⟨v, rfl, Kd.R_mono hOb (fun j hj => by omega), hDb, (((Kp.refl _ w1).drewN 1).then_ hKa (fun _ h => .inl h)).then_ hKb (fun _ h => .inl h)⟩
  · have d1 : (f2 != 0) = true := by simpa using cf
    have cf' := Aside0.mk cf
    clear hf2 cf
    go_enter Try.func17, Try.ntmps17
    go_wp2_with (first
      | (go_at_call 33; refine (okr hD.out).mono ?_; rintro r w1 ⟨rfl, rfl⟩))
    go_region_held3 (fun _ => True) (first | trivial | go_keep) (first
      | (go_at_call 40; refine (length_any (w := w1.drewN 1) (hD.out.step (fun _ _ _ => rfl))).mono ?_; rintro r wa ⟨rfl, hDa, hKa⟩)
      | (go_at_call 39; refine (hgo'.out wa hDa).mono ?_; rintro r wb ⟨v, rfl, hOb, hDb, hKb⟩; have k2 := fail_at hDb; rw [show (rdN (rdL l f).1 (rdL l f).2.1 (rdL l f).2.2).2.2 = f2 from hf2'.out.symm] at k2))
    all_goals try go_wp2
    all_goals go_ret
    all_goals
      have e : rdIs l f = ([], (rdN (rdL l f).1 (rdL l f).2.1 (rdL l f).2.2).2) := by
        have h0 := hf2'.out
        have h1 := cf'.out
        rw [rdIs] at h0 ⊢
        simp only at h0 ⊢
        rw [if_pos (by rw [← h0]; exact h1)]
      rw [e]
      exact ⟨_, rfl, Kd.R_nil _ _ _ _ _, hDb, (((Kp.refl _ w1).drewN 1).then_ hKa (fun _ h => .inl h)).then_ hKb (fun _ h => .inl h)⟩

theorem info5' : ∃ i0, Try.prog.info? 5 = some i0 ∧ i0.size = 1 := by
  obtain ⟨i0, hi, hz0, hz1, hz2⟩ := info_parts info5
  exact ⟨i0, hi, hz1⟩
/-- The n bytes from lo on, cut from a reader's row. -/
theorem cut_row {w : World} {A : Option Addr} {c lo n : Nat} {b : List Int} (hC : Kd.C Byt w A b.length b) (h1 : lo + n ≤ b.length) (h2 : b.length ≤ c) :
    ∃ X, (∀ W : World, (Instr.slice 22 (.slice A b.length c) (some (.int .i64 (lo : Int))) (some (.int .i64 ((lo : Int) + (n : Int)))) none).run Try.prog W = .ok (.slice X n (c - lo)) W) ∧ Kd.C Byt w X n ((b.drop lo).take n) := by
  obtain ⟨i0, hi, hz⟩ := info5'
  refine ⟨if c = lo then A else A.map (·.add (lo * 1)), fun W => ?_, ?_⟩
  · have := cut_mid 22 5 .i64 .i64 Try.underlying22 hi 1 hz A b.length c (lo : Int) ((lo : Int) + (n : Int)) (by omega) (by omega) (by omega) h2 W
    rw [this]
    simp only [Int.toNat_natCast]
    rw [show ((lo : Int) + (n : Int)).toNat - lo = n by omega]
  · have := Kd.C_mid (k := Byt) (lo := lo) (hi := lo + n) hC (by omega) h1 h2
    have e : (b.take (lo + n)).drop lo = (b.drop lo).take n := by rw [List.drop_take]; congr 1; omega
    rw [e] at this
    have hl : ((b.drop lo).take n).length = n := by rw [List.length_take, List.length_drop]; omega
    rw [hl] at this
    exact this
theorem Cur.cut {w : World} {ok : Nat → Prop} {p c i lo n : Nat} {A : Option Addr} {b : List Int} {f : Int} (h : Cur w ok p A c b i f) (h1 : lo + n ≤ b.length) (h2 : b.length ≤ c) :
    ∃ X, (∀ W : World, (Instr.slice 22 (.slice A b.length c) (some (.int .i64 (lo : Int))) (some (.int .i64 ((lo : Int) + (n : Int)))) none).run Try.prog W = .ok (.slice X n (c - lo)) W) ∧ Kd.C Byt w X n ((b.drop lo).take n) := by
  obtain ⟨A', c', e, hle, hC⟩ := Kd.R_reads h.hR
  injection e with e1 e2 e3
  subst e1
  exact cut_row hC h1 h2
theorem string_any {w : World} {ok : Nat → Prop} {p : Nat} {l : List Int} {f : Int} (hR : Rdr w ok p l f) :
    Calls Try.prog 19 #[.pointer (some ⟨p, 0, none⟩)] w fun e w' => e = .returned (.string (strOfNums (rdS l f).1)) ∧ Rdr w' ok p (rdS l f).2.1 (rdS l f).2.2 ∧ Kp (fun j => j = p) w w' := by
  have hD := Aside0.mk hR
  clear hR
  obtain ⟨hle1, hle2⟩ := rdL_le l f
  obtain ⟨n, l', f', hn⟩ : ∃ n l' f', rdL l f = (n, l', f') := ⟨_, _, _, rfl⟩
  have hlen := fun w1 (h1 : Rdr w1 ok p l f) => length_any h1
  have hres : rdS l f = (l'.take n, l'.drop n, f') := by rw [rdS, hn]
  rw [hn] at hlen hle1
  have hlen' := Aside0.mk hlen
  have hres' := Aside0.mk hres
  clear hlen hn hle2 hres
  go_enter Try.func19, Try.ntmps19
  go_wp2_with (first
    | (go_at_call 33; refine (okr hD.out).mono ?_; rintro r w1 ⟨rfl, rfl⟩)
    | (go_at_call 40; refine (hlen'.out w1 hD.out).mono ?_; rintro r wa ⟨rfl, hDa, hKa⟩; obtain ⟨A, c, b, i, g, rfl⟩ := hDa.ex; have hg := Aside0.mk g; have c0 : wa.cell? ⟨p, 0, none⟩ = some (.slice A b.length c) := cell_at g.hp rfl; have c1 : wa.cell? ⟨p, 1, none⟩ = some (.int .i64 i) := cell_at g.hp rfl; have hi := g.hi; have hbb := g.hb; simp only [List.length_drop] at hle1; have hle1' : i + n ≤ b.length := (by omega); have hlc : b.length ≤ c := (by obtain ⟨A', c', e, hle, _⟩ := Kd.R_reads g.hR; injection e with e1 e2 e3; omega); have hKa' := Aside0.mk hKa; clear hDa hKa g))
  obtain ⟨X, hcut, hCX⟩ := Cur.cut hg.out (lo := i) (n := n) hle1' hlc
  have hconv : ∀ q : Nat, _ := fun (q : Nat) => Kd.C_string (P := Try.prog) (w := wa.drewN q) (src := 22) (dst := 9) (c := c - i) Try.underlying22 Try.underlying5 Try.underlying9 (Kd.C_drewN hCX q)
  have f1 : ∀ q, (wa.drewN q).frozen? ⟨p, 1, none⟩ = false := fun q => free_at (w := wa.drewN q) hg.out.hp 1
  go_quiet (fail)
  go_wp2
  go_ret
  rw [hres'.out]
  refine ⟨rfl, ⟨⟨A, c, b, i + n, hg.out.set ?_ (by omega) (((Kp.refl _ wa).drewN _).setp 1 _), by rw [List.drop_drop]⟩⟩, (hKa'.out.drewN _).setp 1 _⟩
  rw [set_at (w := wa.drewN _) hg.out.hp]
  rfl

theorem new_any (n c : Nat) (A : Option Addr) (l : List Int) (w : World) (hk : Kd.C Byt w A n l) (hb : Bs l) (hn : n ≤ 100000) :
    Calls Try.prog 12 #[.slice A n c] w fun e w' => ∃ p, e = .returned (.pointer (some ⟨p, 0, none⟩)) ∧ Rdr w' (fun k => w.heap.size ≤ k) p l 0 ∧ Kp (fun _ => False) w w' := by
  have hl : l.length = n := hk.1
  have hk' := Aside0.mk hk
  clear hk
  go_enter Try.func12, Try.ntmps12
  go_wp2_with (go_at_call 32; refine (clone_any 0 n c A l _ hk'.out (by omega)).mono ?_; rintro r w1 ⟨v, rfl, hR, hK⟩; obtain ⟨A1, c1, rfl, _, _⟩ := Kd.R_reads hR; have h1 := Aside0.mk (And.intro hR hK); clear hR hK)
  go_ret
  have hn1 : w1.heap.size ≥ w.heap.size := h1.out.2.size
  refine ⟨w1.heap.size, rfl, ⟨⟨A1, c1, l, 0, ⟨?_, hn1, Nat.zero_le _, by omega, ?_, hb⟩, rfl⟩⟩, h1.out.2.alloc _⟩
  · rw [hl]; exact heap_alloc_new _ _
  · exact Kd.R_mono (Kd.R_alloc (Kd.R_bound h1.out.1) _) (fun k hk => ⟨hk.1, by have := hk.2.2.1; omega⟩)
end Go.Proofs.Ytjcekelmbpenkaa
