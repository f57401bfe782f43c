/- The reference's table: what its memory says, and the contracts of its methods. -/
import Derived.Test.YtkjjkmipgpoijaaTabD
set_option linter.unusedVariables false
set_option linter.unusedSimpArgs false
namespace Go.Proofs.Ytkjjkmipgpoijaa
open Go.RowKit Go.Maps Go.Proofs.YtkjjkmipgpoijaaW.PrintWords Mem

structure RTb (w : World) (ok : Nat → Prop) (p : Nat) (lim : Int) (ks : List (List Int)) : Prop where
  ex : ∃ vk, w.heap[p]? = some (.cells #[.int .i64 lim, vk, .bool true] 52 (0, 0)) ∧ ok p ∧ Kd.R Kd.string 9 w 0 (fun k => ok k ∧ k ≠ p) vk (ks.map strOfNums)

theorem RTb.step {w w1 : World} {ok : Nat → Prop} {p : Nat} {lim : Int} {ks : List (List Int)} (h : RTb w ok p lim ks) (hm : ∀ k, ok k → k < w.heap.size → w1.heap[k]? = w.heap[k]?) : RTb w1 ok p lim ks := by
  obtain ⟨vk, hp, okp, hR⟩ := h.ex
  exact ⟨⟨vk, (hm p okp (blk_lt' hp)).trans hp, okp, Kd.R_step hR (fun k hk hlt => hm k hk.1 hlt)⟩⟩
theorem RTb.mono {w : World} {ok ok' : Nat → Prop} {p : Nat} {lim : Int} {ks : List (List Int)} (h : RTb w ok p lim ks) (hm : ∀ k, ok k → ok' k) : RTb w ok' p lim ks := by
  obtain ⟨vk, hp, okp, hR⟩ := h.ex
  exact ⟨⟨vk, hp, hm _ okp, Kd.R_mono hR (fun k hk => ⟨hm k hk.1, hk.2⟩)⟩⟩
theorem RTb.bound {w : World} {ok : Nat → Prop} {p : Nat} {lim : Int} {ks : List (List Int)} (h : RTb w ok p lim ks) : RTb w (fun k => ok k ∧ k < w.heap.size) p lim ks := by
  obtain ⟨vk, hp, okp, hR⟩ := h.ex
  exact ⟨⟨vk, hp, ⟨okp, blk_lt' hp⟩, Kd.R_mono (Kd.R_bound hR) (fun k hk => ⟨⟨hk.1.1, hk.2.2.1⟩, hk.1.2⟩)⟩⟩

theorem rnew_any (n : Int) (w : World) :
    Calls Try.prog 12 #[.int .i64 n] w fun e w' => ∃ p, e = .returned (.pointer (some ⟨p, 0, none⟩)) ∧ RTb w' (fun k => w.heap.size ≤ k) p (clip n) [] ∧ Kp (fun _ => False) w w' := by
  have hfin : ∀ m : Int, RTb (w.alloc (.cells #[.int .i64 m, .slice none 0 0, .bool true] 52)) (fun k => w.heap.size ≤ k) w.heap.size m [] := fun m =>
    ⟨⟨.slice none 0 0, heap_alloc_new w _, Nat.le_refl _, Kd.R_nil _ _ _ _ _⟩⟩
  have H := Aside0.mk hfin
  clear hfin
  obtain ⟨m, hm⟩ : ∃ m, m = clip n := ⟨_, rfl⟩
  have e : m = if n < 0 then 0 else if 65536 < n then 65536 else n := hm
  rw [← hm]
  by_cases h0 : n < 0
  · rw [if_pos h0] at e
    subst e
    clear hm
    go_enter Try.func12, Try.ntmps12
    go_wp2
    go_ret
    exact ⟨_, rfl, H.out _, (Kp.refl _ w).alloc _⟩
  · rw [if_neg h0] at e
    by_cases h1 : 65536 < n
    · rw [if_pos h1] at e
      subst e
      clear hm
      go_enter Try.func12, Try.ntmps12
      go_wp2
      go_ret
      exact ⟨_, rfl, H.out _, (Kp.refl _ w).alloc _⟩
    · rw [if_neg h1] at e
      rw [e]
      clear hm e
      have h2 : 0 ≤ n := by omega
      have h3 : n ≤ 65536 := by omega
      go_enter Try.func12, Try.ntmps12
      go_wp2
      go_ret
      exact ⟨_, rfl, H.out _, (Kp.refl _ w).alloc _⟩

theorem rlen_ok (p : Nat) (ok : Nat → Prop) (lim : Int) (ks : List (List Int)) (w : World) (ht : RTb w ok p lim ks) :
    Calls Try.prog 14 #[.pointer (some ⟨p, 0, none⟩)] w fun e w' => e = .returned (.int .i64 ks.length) ∧ w = w' := by
  obtain ⟨vk, hp, okp, hR⟩ := ht.ex
  obtain ⟨B, cc, rfl, _, _⟩ := Kd.R_reads hR
  have c1 : w.cell? ⟨p, 1, none⟩ = some (.slice B (ks.map strOfNums).length cc) := cell_at hp rfl
  simp only [List.length_map] at c1
  clear hR hp ht
  go_enter Try.func14, Try.ntmps14
  go_wp2
  go_ret
  exact ⟨rfl, rfl⟩

/-- An element of an own row of strings. -/
theorem str_at {w : World} {ok : Nat → Prop} {e : Nat} {v : Value} {ss : List ByteArray} (h : Kd.R Kd.string e w 0 ok v ss) :
    (v = .slice none 0 0 ∧ ss = []) ∨ ∃ g cc, v = .slice (some ⟨g, 0, none⟩) ss.length cc ∧ ok g ∧ ∀ i, i < ss.length → w.cell? ⟨g, i, none⟩ = some (.string (ss.getD i ByteArray.empty)) := by
  obtain ⟨h0, inner, ho, hr⟩ := h
  have hR : Kd.R Kd.string e w 0 ok v ss := ⟨h0, inner, ho, hr⟩
  rcases ho.2 with ⟨rfl, hz⟩ | ⟨g, cap, cur, rfl, _, hh, _⟩
  · exact .inl ⟨rfl, List.eq_nil_of_length_eq_zero hz⟩
  · obtain ⟨A, c, he, hle, hC⟩ := Kd.R_reads hR
    injection he with e1 e2 e3
    subst e1
    refine .inr ⟨g, cap, rfl, h0 g (by simp [Value.ownBlock]), fun i hi => ?_⟩
    obtain ⟨ad, cs, hA, hcs, hK, hcell⟩ := ReadsRow.get_ hC ByteArray.empty (i : Int) (by omega) (by omega)
    injection hA with hA
    subst hA
    obtain rfl : cs = [.string (ss.getD i ByteArray.empty)] := by have hK' : cs = [Value.string _] := hK; simpa using hK'
    have := hcell 0 _ rfl
    simpa [Kd.string, Kd.scalar, add_plain] using this

theorem ix_at (T : List Str) : ∀ (k : Nat) (s : Str), k < T.length → (∀ j, j < k → T.getD j [] ≠ s) → T.getD k [] = s → at_ T s = k ∧ isIn T s = true := by
  have key : ∀ (T : List Str) (k : Nat) (s : Str), k < T.length → (∀ j, j < k → T.getD j [] ≠ s) → T.getD k [] = s → ix T s = k ∧ s ∈ T := by
    intro T
    induction T with
    | nil => intro k s h; simp at h
    | cons a r ih =>
      intro k s hk hj he
      cases k with
      | zero => simp at he; simp [ix, he]
      | succ k =>
        have h0 : a ≠ s := by simpa using hj 0 (by omega)
        obtain ⟨h1, h2⟩ := ih k s (by simpa using hk) (fun j hjk => by simpa using hj (j + 1) (by omega)) (by simpa using he)
        simp [ix, h0, h1, h2]
  intro k s hk hj he
  obtain ⟨h1, h2⟩ := key T k s hk hj he
  exact ⟨by simp [at_, h1, h2], by simp [isIn, h2]⟩
theorem ix_none (T : List Str) (s : Str) (h : ∀ j, j < T.length → T.getD j [] ≠ s) : at_ T s = 0 ∧ isIn T s = false := by
  have hn : s ∉ T := fun hm => by
    obtain ⟨j, hj, he⟩ := List.getElem_of_mem hm
    exact h j hj (by rw [List.getD_eq_getElem?_getD, List.getElem?_eq_getElem hj]; exact he)
  exact ⟨by simp [at_, hn], by simp [isIn, hn]⟩

set_option maxHeartbeats 400000 in
theorem rfind_ok (p : Nat) (ok : Nat → Prop) (lim : Int) (ks : List (List Int)) (n c : Nat) (A : Option Addr) (l : List Int) (w : World) (ht : RTb w ok p lim ks) (hk : Kd.C (Kd.int .u8) w A n l) (hm : ks.length ≤ 65536) :
    Calls Try.prog 18 #[.pointer (some ⟨p, 0, none⟩), .slice A n c] w fun e w' => e = .returned (.tuple #[.int .i64 (at_ (ks.map kz) (kz l)), .bool (isIn (ks.map kz) (kz l))]) ∧ ∃ q, w' = w.drewN q := by
  obtain ⟨vk, hp, okp, hR⟩ := ht.ex
  obtain ⟨B, cc, rfl, _, _⟩ := Kd.R_reads hR
  have c1 : ∀ q, (w.drewN q).cell? ⟨p, 1, none⟩ = some (.slice B (ks.map strOfNums).length cc) := fun q => cell_at (w := w.drewN q) hp rfl
  have h1 := fun (q : Nat) => Kd.C_string (P := Try.prog) (w := w.drewN q) (src := 22) (dst := 9) (c := c) Try.underlying22 Try.underlying5 Try.underlying9 (Kd.C_drewN hk q)
  simp only [List.length_map] at c1
  have X := Aside0.mk (And.intro hR (And.intro hp hk))
  clear hR hp ht hk
  go_enter Try.func18, Try.ntmps18
  go_wp2
  go_loopw [6] (fun i wr => ∃ k q : Nat, k ≤ ks.length ∧ i = .int .i64 k ∧ wr = w.drewN q ∧ Aside0 (∀ j, j < k → kz (ks.getD j []) ≠ kz l)) (fun i _ => ks.length - (intOf i).toNat)
  case atStart => exact ⟨0, 0, Nat.zero_le _, rfl, rfl, ⟨fun j hj => by omega⟩⟩
  case round =>
    obtain ⟨k, q, hkl, rfl, rfl, HN⟩ := hrel
    by_cases hlt : k < ks.length
    · rcases str_at X.out.1 with ⟨e1, e2⟩ | ⟨g, cap, e1, okg, hcell⟩
      · have e3 := congrArg List.length e2; rw [List.length_map] at e3; exact absurd e3 (by simp only [List.length_nil]; omega)
      · injection e1 with e1 e2 e3
        subst e1
        have hc := hcell k (by simpa using hlt)
        obtain ⟨s, hs⟩ : ∃ s, s = (ks.map strOfNums).getD k ByteArray.empty := ⟨_, rfl⟩
        rw [← hs] at hc
        have hs' := Aside0.mk hs
        have hcd : ∀ q, (w.drewN q).cell? ⟨g, k, none⟩ = some (.string s) := fun q => hc
        clear hcell hs hc e2
        have hk0 : (0 : Int) ≤ k := by omega
        have hk1 : (k : Int) < ks.length := by omega
        go_wp2
        go_quiet (fail)
        have hkz : s.data.toList = kz (ks.getD k []) := by
          rw [hs'.out, List.getD_eq_getElem?_getD, List.getElem?_map, List.getD_eq_getElem?_getD, List.getElem?_eq_getElem hlt]
          rfl
        have hkz' := Aside0.mk hkz
        clear hkz
        go_wp2
        · have he : (s.toList == (strOfNums l).toList) = true := by assumption
          have e4 : kz (ks.getD k []) = kz l := by
            rw [ByteArray.toList_eq, ByteArray.toList_eq, beq_iff_eq, hkz'.out] at he
            exact he
          have hat := ix_at (ks.map kz) k (kz l) (by simpa using hlt) (fun j hj => by
            have := HN.out j hj
            rw [List.getD_eq_getElem?_getD, List.getElem?_eq_getElem (by omega)] at this
            rw [List.getD_eq_getElem?_getD, List.getElem?_map, List.getElem?_eq_getElem (by omega)]
            exact this) (by
            rw [List.getD_eq_getElem?_getD, List.getElem?_eq_getElem (by omega)] at e4
            rw [List.getD_eq_getElem?_getD, List.getElem?_map, List.getElem?_eq_getElem (by omega)]
            exact e4)
          go_ret2
          refine ⟨?_, _, World.drewN_drewN _ _ _⟩
          rw [hat.1, hat.2]
          rfl
        · have he : (s.toList == (strOfNums l).toList) = false := by assumption
          go_roundw
          case rel =>
            refine ⟨k + 1, _, by omega, by go_num, rfl, ⟨fun j hj => ?_⟩⟩
            by_cases e : j < k
            · exact HN.out j e
            · obtain rfl : j = k := by omega
              rw [ByteArray.toList_eq, ByteArray.toList_eq, beq_eq_false_iff_ne, hkz'.out] at he
              exact he
          case measure => simp [intOf]; omega
    · have hni := ix_none (ks.map kz) (kz l) (fun j hj => by
        rw [List.length_map] at hj
        have := HN.out j (by omega)
        rw [List.getD_eq_getElem?_getD, List.getElem?_eq_getElem (by omega)] at this
        rw [List.getD_eq_getElem?_getD, List.getElem?_map, List.getElem?_eq_getElem (by omega)]
        exact this)
      have hni' := Aside0.mk hni
      clear hni
      go_wp2
      go_ret2
      refine ⟨?_, _, rfl⟩
      rw [hni'.out.1, hni'.out.2]
      rfl

theorem radd_old (p : Nat) (ok : Nat → Prop) (lim : Int) (ks : List (List Int)) (n c : Nat) (A : Option Addr) (l : List Int) (w : World) (ht : RTb w ok p lim ks) (hk : Kd.C (Kd.int .u8) w A n l) (hm : ks.length ≤ 65536) (hin : kz l ∈ ks.map kz) :
    Calls Try.prog 16 #[.pointer (some ⟨p, 0, none⟩), .slice A n c] w fun e w' => e = .returned (.tuple #[.int .i64 (at_ (ks.map kz) (kz l)), .bool false, .int .i64 0]) ∧ ∃ q, w' = w.drewN q := by
  obtain ⟨vk, hp, okp, hR⟩ := ht.ex
  have c2 : w.cell? ⟨p, 2, none⟩ = some (.bool true) := cell_at hp rfl
  have hd : isIn (ks.map kz) (kz l) = true := (isIn_iff _ _).2 hin
  have H := Aside0.mk (And.intro ht hk)
  clear hp hR ht hk hin
  go_enter Try.func16, Try.ntmps16
  go_wp2_with (go_at_call 18; refine (rfind_ok p ok lim ks n c A l _ H.out.1 H.out.2 hm).mono ?_; rintro e w' ⟨rfl, q, rfl⟩)
  go_ret3
  exact ⟨rfl, _, rfl⟩

theorem radd_full (p : Nat) (ok : Nat → Prop) (lim : Int) (ks : List (List Int)) (n c : Nat) (A : Option Addr) (l : List Int) (w : World) (ht : RTb w ok p lim ks) (hk : Kd.C (Kd.int .u8) w A n l) (hm : ks.length ≤ 65536) (hin : kz l ∉ ks.map kz) (hl : lim ≤ ks.length) :
    Calls Try.prog 16 #[.pointer (some ⟨p, 0, none⟩), .slice A n c] w fun e w' => e = .returned (.tuple #[.int .i64 0, .bool false, .int .i64 13]) ∧ ∃ q, w' = w.drewN q := by
  obtain ⟨vk, hp, okp, hR⟩ := ht.ex
  obtain ⟨B, cc, rfl, _, _⟩ := Kd.R_reads hR
  rw [List.length_map] at hp
  have c0 : w.cell? ⟨p, 0, none⟩ = some (.int .i64 lim) := cell_at hp rfl
  have c1 : w.cell? ⟨p, 1, none⟩ = some (.slice B ks.length cc) := cell_at hp rfl
  have c2 : w.cell? ⟨p, 2, none⟩ = some (.bool true) := cell_at hp rfl
  have hd : isIn (ks.map kz) (kz l) = false := by rw [← Bool.not_eq_true, isIn_iff]; exact hin
  have H := Aside0.mk (And.intro ht hk)
  clear hp hR ht hk hin
  go_enter Try.func16, Try.ntmps16
  go_wp2_with (go_at_call 18; refine (rfind_ok p ok lim ks n c A l _ H.out.1 H.out.2 hm).mono ?_; rintro e w' ⟨rfl, q, rfl⟩)
  go_quiet (fail)
  go_wp2
  go_ret3
  exact ⟨rfl, _, World.drewN_drewN _ _ _⟩

theorem info9 : (Try.prog.info? 9).map (fun i => (i.zero, i.size, i.bytes)) = some (some (.string ByteArray.empty), 1, 16) := by kernel_rfl

set_option maxRecDepth 100000 in
set_option maxHeartbeats 1000000 in
theorem radd_new (p : Nat) (ok : Nat → Prop) (lim : Int) (ks : List (List Int)) (n c : Nat) (A : Option Addr) (l : List Int) (w : World) (ht : RTb w ok p lim ks) (hk : Kd.C (Kd.int .u8) w A n l) (hm : ks.length ≤ 65536) (hin : kz l ∉ ks.map kz) (hl : ks.length < lim) :
    Calls Try.prog 16 #[.pointer (some ⟨p, 0, none⟩), .slice A n c] w fun e w' => e = .returned (.tuple #[.int .i64 ks.length, .bool true, .int .i64 0]) ∧ RTb w' (fun k => ok k ∨ w.heap.size ≤ k) p lim (ks ++ [l]) ∧ Kp ok w w' := by
  obtain ⟨vk, hp, okp, hR⟩ := ht.ex
  obtain ⟨B, cc, rfl, _, _⟩ := Kd.R_reads hR
  have hp0 := hp
  rw [List.length_map] at hp
  have c0 : w.cell? ⟨p, 0, none⟩ = some (.int .i64 lim) := cell_at hp rfl
  have c1 : w.cell? ⟨p, 1, none⟩ = some (.slice B ks.length cc) := cell_at hp rfl
  have c2 : w.cell? ⟨p, 2, none⟩ = some (.bool true) := cell_at hp rfl
  have f1 : w.frozen? ⟨p, 1, none⟩ = false := free_at hp 1
  have hd : isIn (ks.map kz) (kz l) = false := by rw [← Bool.not_eq_true, isIn_iff]; exact hin
  have hs : decide (lim ≤ (ks.length : Int)) = false := by simp; omega
  have H := Aside0.mk (And.intro ht hk)
  have hpl := blk_lt' hp
  have hp' := Aside0.mk hp
  have hR' : Aside0 (Kd.R Kd.string 9 w 0 (fun k => ok k ∧ k < w.heap.size ∧ k ≠ p) (.slice B ks.length cc) (ks.map strOfNums)) := ⟨by
    have h4 := Kd.R_mono (Kd.R_bound hR) (ok' := fun k => ok k ∧ k < w.heap.size ∧ k ≠ p) (fun k hk => ⟨hk.1.1, hk.2.2.1, hk.1.2⟩)
    simpa using h4⟩
  have h1 := fun (q : Nat) => Kd.C_string (P := Try.prog) (w := w.drewN q) (src := 22) (dst := 9) (c := c) Try.underlying22 Try.underlying5 Try.underlying9 (Kd.C_drewN hk q)
  have h3 : ∀ q : Nat, (convert 22 9 (Value.slice A n c)).run Try.prog (w.drewN q).drew = Result.ok (Value.string (strOfNums l)) (w.drewN q).drew := fun q => h1 (q + 1)
  have d5 : ∀ q, ((w.drewN q).alloc (.cells #[.string (strOfNums l)] 9)).cell? ⟨p, 1, none⟩ = some (.slice B ks.length cc) := fun q => cell_at ((Below.heap_alloc (w.drewN q) _ p hpl).trans hp) rfl
  clear hp hR ht hk hin hp0
  go_enter Try.func16, Try.ntmps16
  go_wp2_with (go_at_call 18; refine (rfind_ok p ok lim ks n c A l _ H.out.1 H.out.2 hm).mono ?_; rintro e w' ⟨rfl, q, rfl⟩)
  go_quiet (fail)
  go_wp2
  go_region_law (first
    | ((refine Kd.R_append_step Kd.string (w0 := w) 0 (by rfl) (.tmp 40) (.tmp 43) 44 9 (.string ByteArray.empty) 16 (by rfl) Try.underlying44 info9 rfl (by decide) (by decide) (.slice B ks.length cc) (ks.map strOfNums) (strOfNums l) [.string (strOfNums l)] (fun k => (ok k ∧ k < w.heap.size ∧ k ≠ p) ∨ w.heap.size ≤ k) (fun _ => False) (by rfl) (by rfl) ?_ ?_ ?_ ?_ ?_ (Nat.zero_le _) ?_ ?_)
       · exact rfl
       · intro k hk; exact hk.elim
       · intro k hk; right; exact hk
       · exact Kd.R_mono (Kd.R_drewN hR'.out _) (fun k hk => .inl hk)
       · exact ((Kp.refl (fun _ => False) w).drewN _).belowB (fun _ h => h.elim) (Nat.zero_le _)
       · rw [List.length_map]; omega
       intro v2 w3 hRB hBB hgB hatB
       obtain ⟨A2, cB, rfl, hle2, _⟩ := Kd.R_reads hRB
       have r2 : w3.heap[p]? = some (.cells #[.int .i64 lim, .slice B ks.length cc, .bool true] 52 (0, 0)) := (hgB.block p hpl (fun e => (hR'.out.1 p e.symm).2.2 rfl)).trans hp'.out
       have r3 : w3.cell? ⟨p, 1, none⟩ = some (.slice B ks.length cc) := cell_at r2 rfl
       have r4 : w3.frozen? ⟨p, 1, none⟩ = false := free_at r2 1
       have r5 : (ks.map strOfNums ++ [strOfNums l]).length = ks.length + 1 := by simp
       rw [r5] at hRB))
  all_goals
    have s1 : (w3.setCell ⟨p, 1, none⟩ (.slice A2 (ks.length + 1) cB)).cell? ⟨p, 1, none⟩ = some (.slice A2 (ks.length + 1) cB) := cell_at (by simpa using set_at (j := 1) r2 (.slice A2 (ks.length + 1) cB)) rfl
    have hk1 : ((ks.length : Int) + 1) - 1 = ks.length := by omega
    go_wp2
    go_ret3
    refine ⟨rfl, ⟨⟨_, by simpa using set_at (j := 1) r2 _, .inl okp, ?_⟩⟩, ?_⟩
    · rw [List.map_append]
      refine Kd.R_mono (Kd.R_far (p := ⟨p, 1, none⟩) hRB (fun k hk => ?_) _) (fun k hk => ?_)
      · rcases hk with hk | hk
        · exact hk.2.2
        · show k ≠ p; omega
      · rcases hk with hk | hk
        · exact ⟨.inl hk.1, hk.2.2⟩
        · exact ⟨.inr hk, by omega⟩
    · exact ((((Kp.refl ok w).drewN _)).grown hgB (fun k hk => .inl (hR'.out.1 k hk).1)).setCell (.inl okp) _

end Go.Proofs.Ytkjjkmipgpoijaa
