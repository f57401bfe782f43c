/- AppendInt, AppendInts, AppendString of the program and of the reference: contracts. -/
import Derived.Test.YtjcekelmbpenkaaVarA
set_option linter.unusedVariables false
set_option linter.unusedSimpArgs false
namespace Go.Proofs.Ytjcekelmbpenkaa
open Go.RowKit Go.Proofs.YtjcekelmbpenkaaW.PrintWords Mem VarPure

theorem put_any (ok : Nat → Prop) (v : Value) (l : List Int) (n : Int) (w : World) (hv : Kd.R Byt 5 w 0 ok v l) (hn : I64 n) (hl : l.length + 20 < 140737488355328) :
    Calls Try.prog 31 #[v, .int .i64 n] w fun e w' => ∃ v', e = .returned v' ∧ Kd.R Byt 5 w' 0 (fun k => ok k ∨ w.heap.size ≤ k) v' (l ++ encI n) ∧ Kp ok w w' := by
  have h := PVarintPrefix.varint_put.calls 10 ok v l n _ { w with heap := #[] } w ⟨rfl, rfl, rfl, Nat.zero_le _, fun k hk => by simp at hk⟩ hv (put_f hn l hl)
  refine h.mono ?_
  rintro e w' ⟨v', rfl, hR, hb, hk⟩
  exact ⟨v', rfl, hR, ⟨hb.os, hb.tape, hb.output, hk⟩⟩

theorem aint_any (n c : Nat) (A : Option Addr) (l : List Int) (m : Int) (w : World) (hk : Kd.C Byt w A n l) (hm : I64 m) (hn : n ≤ 1000000000) :
    Calls Try.prog 9 #[.slice A n c, .int .i64 m] w fun e w' => ∃ v, e = .returned v ∧ Kd.R Byt 5 w' 0 (fun k => w.heap.size ≤ k) v (l ++ encI m) ∧ Kp (fun _ => False) w w' := by
  have hl : l.length ≤ 1000000000 := by rw [hk.1]; exact hn
  have hk' := Aside0.mk (And.intro hk hm)
  clear hk hm
  go_enter Try.func9, Try.ntmps9
  go_wp2_with (first
    | (go_at_call 32; refine (clone_any 10 n c A l _ hk'.out.1 (by omega)).mono ?_; rintro e w1 ⟨v, rfl, hR, hK⟩; have h1 := Aside0.mk (And.intro hR hK); clear hR hK)
    | (go_at_call 31; refine (put_any _ v l m w1 h1.out.1 hk'.out.2 (by omega)).mono ?_; rintro e w2 ⟨v2, rfl, hR2, hK2⟩))
  go_ret
  exact ⟨_, rfl, Kd.R_mono hR2 (fun k hk => by have := h1.out.2.size; omega), (h1.out.2.then_ hK2 (fun k hk => .inr hk)).mono (fun _ h => h)⟩

set_option maxHeartbeats 1000000 in
theorem aints_any (n c m c2 : Nat) (A A2 : Option Addr) (l q : List Int) (w : World) (hk : Kd.C Byt w A n l) (hq : Kd.C (Kd.int .i64) w A2 m q) (hw : ∀ x ∈ q, I64 x) (hn : n ≤ 1000000000) (hm : m ≤ 10000) :
    Calls Try.prog 26 #[.slice A n c, .slice A2 m c2] w fun e w' => ∃ v, e = .returned v ∧ Kd.R Byt 5 w' 0 (fun k => w.heap.size ≤ k) v (l ++ encL q) ∧ Kp (fun _ => False) w w' := by
  have hl : l.length ≤ 1000000000 := by rw [hk.1]; exact hn
  have hqm : q.length = m := hq.1
  have hk' := Aside0.mk (And.intro hk (And.intro hq (And.intro hw hqm)))
  clear hk hq hw hqm
  have hI : I64 (m : Int) := by unfold I64; omega
  have hI' := Aside0.mk hI
  clear hI
  have hlen := (encI_len (m : Int)).2
  go_enter Try.func26, Try.ntmps26
  go_wp2_with (first
    | (go_at_call 32; refine (clone_any (2 * m + 2 : Nat) n c A l _ hk'.out.1 (by omega)).mono ?_; rintro e w1 ⟨v, rfl, hR, hK⟩; have h1 := Aside0.mk (And.intro hR hK); clear hR hK)
    | (go_at_call 31; refine (put_any _ v l m w1 h1.out.1 hI'.out (by omega)).mono ?_; rintro e w2 ⟨v2, rfl, hR2, hK2⟩; have h2 : Aside0 (Kd.R Byt 5 w2 0 (fun k => w.heap.size ≤ k) v2 (l ++ encI m) ∧ Kp (fun k => w.heap.size ≤ k) w w2) := ⟨Kd.R_mono hR2 (fun k hk => by have := h1.out.2.size; omega), (h1.out.2.mono (fun _ h => h.elim)).then_ hK2 (fun k hk => .inl hk)⟩; clear hR2 hK2))
  go_loopw [5, 19] (fun v5 v wr => ∃ k : Nat, k ≤ m ∧ v = .int .i64 k ∧ Aside0 (Kd.R Byt 5 wr 0 (fun k => w.heap.size ≤ k) v5 (l ++ encI m ++ (q.take k).flatMap encI)) ∧ Aside0 (Kp (fun k => w.heap.size ≤ k) w wr)) (fun _ v _ => m - (intOf v).toNat)
  case atStart => exact ⟨0, Nat.zero_le _, rfl, ⟨by simpa using h2.out.1⟩, ⟨h2.out.2⟩⟩
  case round =>
    obtain ⟨k, hkm, rfl, hR, hK⟩ := hrel
    by_cases hlt : k < m
    · have hkq : k < q.length := by rw [hk'.out.2.2.2]; exact hlt
      have h3 := Kd.C_below hk'.out.2.1 (hK.out.below (fun _ h => h))
      obtain ⟨ad, rfl, hc0⟩ := (Kd.reads_of_C (enc := Value.int .i64) (d := (0 : Int)) (h1 := fun _ => rfl) h3).at_ k (by omega) (by omega)
      obtain ⟨x, hx⟩ : ∃ x, x = q[k] := ⟨_, rfl⟩
      have hc1 : wr.cell? (ad.add k) = some (.int .i64 x) := by rw [hx]; simpa [rdOf, hkq] using hc0
      have hxI : Aside0 (I64 x) := ⟨hx ▸ hk'.out.2.2.1 _ (List.getElem_mem hkq)⟩
      have hfl := flat_len (q.take k)
      rw [List.length_take] at hfl
      have hfe : Aside0 (l ++ encI m ++ (q.take k).flatMap encI ++ encI x = l ++ encI m ++ (q.take (k + 1)).flatMap encI) := ⟨by
        rw [List.take_succ_eq_append_getElem hkq, hx, List.flatMap_append, List.append_assoc, List.flatMap_cons, List.flatMap_nil, List.append_nil]⟩
      have hb : Aside0 ((l ++ encI m ++ (q.take k).flatMap encI).length + 20 < 140737488355328) := ⟨by simp only [List.length_append]; omega⟩
      have hk1 : (k : Int) < m := by omega
      clear h3 hx hc0 hfl
      go_wp2_with (go_at_call 31; refine (put_any _ _ _ x wr hR.out hxI.out hb.out).mono ?_; rintro e w3 ⟨v3, rfl, hR3, hK3⟩)
      go_roundw
      case rel => exact ⟨k + 1, by omega, by go_num, ⟨hfe.out ▸ Kd.R_mono hR3 (fun j hj => by have := hK.out.size; omega)⟩, ⟨hK.out.then_ hK3 (fun j hj => .inl hj)⟩⟩
      case measure => simp [intOf]; omega
    · have hke : k = m := by omega
      have hfe : Aside0 (l ++ encI m ++ (q.take k).flatMap encI = l ++ encL q) := ⟨by
        rw [List.take_of_length_le (by rw [hk'.out.2.2.2]; omega), encL, hk'.out.2.2.2, List.append_assoc]⟩
      clear hke
      go_wp2
      go_ret
      exact ⟨_, rfl, hfe.out ▸ hR.out, hK.out.below (fun _ h => h) |> fun hb => Kp.of_below hb _⟩

theorem R_of_own' {w : World} {base : Nat} {v : Value} {l : List Int} (h : w.ownsRow base 5 1 v l.length (nums .u8 l)) : Kd.R Byt 5 w 0 (fun k => base ≤ k) v l :=
  Kd.R_lower (Kd.R_of_own (enc := Value.int .u8) (h1 := fun _ => rfl) h (fun k hk => own_base h k hk)) (Nat.zero_le _)
theorem own_of_R' {w : World} {base : Nat} {ok : Nat → Prop} {v : Value} {l : List Int} (h : Kd.R Byt 5 w 0 ok v l) (hk : ∀ k, ok k → base ≤ k) : w.ownsRow base 5 1 v l.length (nums .u8 l) := by
  have h1 := Kd.own_of_R (enc := Value.int .u8) (h1 := fun _ => rfl) h
  obtain ⟨a, b⟩ := h1
  refine ⟨a, ?_⟩
  rcases b with b | ⟨g, cap, cur, rfl, _, r⟩
  · exact .inl b
  · exact .inr ⟨g, cap, cur, rfl, hk g (h.1 g rfl), r⟩

theorem astr_any (n c : Nat) (A : Option Addr) (l : List Int) (s : ByteArray) (w : World) (hk : Kd.C Byt w A n l) (hn : n ≤ 1000000000) (hs : s.size ≤ 10000) :
    Calls Try.prog 28 #[.slice A n c, .string s] w fun e w' => ∃ v, e = .returned v ∧ Kd.R Byt 5 w' 0 (fun k => w.heap.size ≤ k) v (l ++ encS s) ∧ Kp (fun _ => False) w w' := by
  have hl : l.length ≤ 1000000000 := by rw [hk.1]; exact hn
  have hk' := Aside0.mk hk
  clear hk
  have hI : I64 (s.size : Int) := by unfold I64; omega
  have hI' := Aside0.mk hI
  clear hI
  have hlen := (encI_len (s.size : Int)).2
  go_enter Try.func28, Try.ntmps28
  go_wp2_with (first
    | (go_at_call 32; refine (clone_any (s.size + 2 : Nat) n c A l _ hk'.out (by omega)).mono ?_; rintro e w1 ⟨v, rfl, hR, hK⟩; have h1 := Aside0.mk (And.intro hR hK); clear hR hK)
    | (go_at_call 31; refine (put_any _ v l s.size w1 h1.out.1 hI'.out (by omega)).mono ?_; rintro e w2 ⟨v2, rfl, hR2, hK2⟩; have h2 : Aside0 (Kd.R Byt 5 w2 0 (fun k => w.heap.size ≤ k) v2 (l ++ encI s.size) ∧ Kp (fun k => w.heap.size ≤ k) w w2) := ⟨Kd.R_mono hR2 (fun k hk => by have := h1.out.2.size; omega), (h1.out.2.mono (fun _ h => h.elim)).then_ hK2 (fun k hk => .inl hk)⟩; obtain ⟨A2, c2, rfl, _, _⟩ := Kd.R_reads hR2; clear hR2 hK2)
    | (at_builtin; refine print_append_str (w0 := w2) w.heap.size (by rfl) (.tmp 12) (.tmp 13) 22 9 5 (by rfl) Try.underlying22 Try.underlying9 info5 (.slice A2 (l ++ encI s.size).length c2) (l ++ encI s.size) s (by rw [List.length_append]; rfl) (by rfl) (own_of_R' h2.out.1 (fun _ h => h)) (Below.refl _ _) h2.out.2.size (by simp only [List.length_append]; omega) ?_; intro v3 w3 ho3 hb3 hg3))
  go_ret
  refine ⟨_, rfl, ?_, ?_⟩
  · have := R_of_own' ho3
    rwa [List.append_assoc] at this
  · exact Kp.of_below ((h2.out.2.grown hg3 (fun k hk => .inl (h2.out.1.1 k hk))).below (fun _ h => h)) _
end Go.Proofs.Ytjcekelmbpenkaa
