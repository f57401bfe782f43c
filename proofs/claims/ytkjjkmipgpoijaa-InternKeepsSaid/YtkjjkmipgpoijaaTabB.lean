/- The table of package intern: the contract of Add. -/
import Derived.Test.YtkjjkmipgpoijaaTabA
import Derived.Deep.AppendLies
set_option linter.unusedVariables false
set_option linter.unusedSimpArgs false
namespace Go.Proofs.Ytkjjkmipgpoijaa
open Go.RowKit Go.Maps Go.Proofs.YtkjjkmipgpoijaaW.PrintWords Mem

theorem ix_append (T : List Str) (t s : Str) : ix (T ++ [t]) s = if s ∈ T then ix T s else if t = s then T.length else T.length + 1 := by
  induction T with
  | nil => by_cases h : t = s <;> simp [ix, h]
  | cons a r ih =>
    by_cases h : a = s
    · simp [ix, h]
    · have h' : ¬ s = a := fun e => h e.symm
      simp only [List.cons_append, ix, if_neg h, ih, List.mem_cons, h', false_or, List.length_cons]
      split
      · rfl
      · split <;> rfl

theorem MapT.store {w : World} {b : Nat} {T : List Str} (h : MapT w b T) {s : ByteArray} (hs : s.size ≤ maxLen) (hT : T.length < maxLen) (hn : s.data.toList ∉ T) :
    ∃ w1, (Instr.mapUpdate 46 (.map (some b)) (.string s) (.int .i64 T.length)).run Try.prog w = .ok () w1 ∧ MapT w1 b (T ++ [s.data.toList]) ∧ w.grownBy w1 (some b) := by
  obtain ⟨D, ho, hh, ha⟩ := h
  obtain ⟨w1, hr, ho1, hg⟩ := ho.update (val := .int .i64 T.length) law9 Try.underlying46 hT (WideMaps.keyOf_string_mk Try.underlying9 hs) (plainElem_int Try.underlying3 (WalkArith.wf_i64 (by unfold maxLen at hT; omega)))
  have hmp := ho.isMap
  refine ⟨w1, hr, ⟨_, by simpa using ho1, fun s' => ?_, fun s' hs' => ?_⟩, hg⟩
  · by_cases e : s' = s.data.toList
    · subst e
      rw [show (Lit.string s.data.toList) = kl s.data.toList from rfl, has_put_same hmp (kl_key _)]
      simp [isIn]
    · have hne : kl s' ≠ Lit.string s.data.toList := fun e' => e (kl_inj e')
      rw [has_put_other hne, hh]
      simp [isIn, e]
  · rw [ix_append]
    by_cases e : s' = s.data.toList
    · subst e
      rw [show (Lit.string s.data.toList) = kl s.data.toList from rfl, atKey_put_same hmp (kl_key _), if_neg hn, if_pos rfl]
      rfl
    · have hne : kl s' ≠ Lit.string s.data.toList := fun e' => e (kl_inj e')
      have hm : s' ∈ T := by simpa [e] using hs'
      rw [atKey_put_other hne, ha _ hm, if_pos hm]

theorem MapT.wp {w : World} {b : Nat} {T : List Str} (h : MapT w b T) {s : ByteArray} (hs : s.size ≤ maxLen) (hT : T.length < maxLen) (hn : s.data.toList ∉ T)
    {ops : Array Oper} {rest : List Oper} {o : Oper} {a : Act} {Q : Exit → Act → World → Prop} (hg : o.guard = none) (m x v : Operand) (hop : o.op = Op.mapUpdate 46 m x v)
    (hm : a.eval m = .map (some b)) (hx : a.eval x = .string s) (kv : Int) (hv : a.eval v = .int .i64 kv) (hkv : kv = (T.length : Int))
    (hK : ∀ w', MapT w' b (T ++ [s.data.toList]) → w.grownBy w' (some b) → wpList Try.prog ops Q rest (a.put o.dst undef) w') : wpList Try.prog ops Q (o :: rest) a w := by
  subst hkv
  refine wpList_plain hg fun K' hK' => ?_
  obtain ⟨w', hrun, r1, r2⟩ := h.store hs hT hn
  unfold Oper.wp
  simp [execOp, hop, hm, hx, hv, hrun, Result.andThen]
  exact hK' _ _ (hK w' r1 r2)
theorem MapT.grown {w w1 : World} {b : Nat} {T : List Str} (h : MapT w b T) (hb : w1.heap[b]? = w.heap[b]?) : MapT w1 b T := by
  obtain ⟨D, ⟨es, clock, h1, h2⟩, hh, ha⟩ := h
  exact ⟨D, ⟨es, clock, hb.trans h1, h2⟩, hh, ha⟩
theorem MapT.blk {w : World} {b : Nat} {T : List Str} (h : MapT w b T) : ∃ es c, w.heap[b]? = some (.map es c) := by
  obtain ⟨D, ⟨es, clock, h1, h2⟩, hh, ha⟩ := h
  exact ⟨es, clock, h1⟩

theorem Tbl.step {w w1 : World} {ok : Nat → Prop} {p : Nat} {lim : Int} {ks : List (List Int)} (h : Tbl w ok p lim ks) (hm : ∀ k, ok k → k < w.heap.size → w1.heap[k]? = w.heap[k]?) : Tbl w1 ok p lim ks := by
  obtain ⟨bm, vk, hp, okp, okb, hM, hR⟩ := h.ex
  obtain ⟨es, c, hb⟩ := hM.blk
  exact ⟨⟨bm, vk, (hm p okp (blk_lt' hp)).trans hp, okp, okb, hM.grown (hm bm okb (blk_lt' hb)), Kd.R_step hR (fun k hk hlt => hm k hk.1 hlt)⟩⟩
theorem Tbl.mono {w : World} {ok ok' : Nat → Prop} {p : Nat} {lim : Int} {ks : List (List Int)} (h : Tbl w ok p lim ks) (hm : ∀ k, ok k → ok' k) : Tbl w ok' p lim ks := by
  obtain ⟨bm, vk, hp, okp, okb, hM, hR⟩ := h.ex
  exact ⟨⟨bm, vk, hp, hm _ okp, hm _ okb, hM, Kd.R_mono hR (fun k hk => ⟨hm k hk.1, hk.2⟩)⟩⟩
theorem Tbl.bound {w : World} {ok : Nat → Prop} {p : Nat} {lim : Int} {ks : List (List Int)} (h : Tbl w ok p lim ks) : Tbl w (fun k => ok k ∧ k < w.heap.size) p lim ks := by
  obtain ⟨bm, vk, hp, okp, okb, hM, hR⟩ := h.ex
  obtain ⟨es, c, hb⟩ := hM.blk
  exact ⟨⟨bm, vk, hp, ⟨okp, blk_lt' hp⟩, ⟨okb, blk_lt' hb⟩, hM, Kd.R_mono (Kd.R_bound hR) (fun k hk => ⟨⟨hk.1.1, hk.2.2.1⟩, hk.1.2⟩)⟩⟩

theorem add_nil (w : World) (v : Value) : Calls Try.prog 15 #[.pointer none, v] w fun e w' => e = .returned (.tuple #[.int .i64 0, .bool false, .int .i64 1]) ∧ w = w' := by
  go_enter Try.func15, Try.ntmps15
  go_wp2_with (go_at_call 21; refine (made_nil _).mono ?_; rintro e w' ⟨rfl, rfl⟩)
  go_ret3
  exact ⟨rfl, rfl⟩
theorem add_zero (p : Nat) (w : World) (v : Value) (c1 : w.cell? ⟨p, 1, none⟩ = some (.map none)) : Calls Try.prog 15 #[.pointer (some ⟨p, 0, none⟩), v] w fun e w' => e = .returned (.tuple #[.int .i64 0, .bool false, .int .i64 1]) ∧ w = w' := by
  go_enter Try.func15, Try.ntmps15
  go_wp2_with (go_at_call 21; refine (made_zero p _ c1).mono ?_; rintro e w' ⟨rfl, rfl⟩)
  go_ret3
  exact ⟨rfl, rfl⟩

set_option maxHeartbeats 400000 in
theorem add_old (p : Nat) (ok : Nat → Prop) (lim : Int) (ks : List (List Int)) (n c : Nat) (A : Option Addr) (l : List Int) (w : World) (ht : Tbl w ok p lim ks) (hk : Kd.C (Kd.int .u8) w A n l) (hn : (strOfNums l).size ≤ maxLen) (hin : kz l ∈ ks.map kz) :
    Calls Try.prog 15 #[.pointer (some ⟨p, 0, none⟩), .slice A n c] w fun e w' => e = .returned (.tuple #[.int .i64 (at_ (ks.map kz) (kz l)), .bool false, .int .i64 0]) ∧ ∃ q, w' = w.drewN q := by
  obtain ⟨bm, vk, hp, okp, okb, hm, hR⟩ := ht.ex
  have c1 : w.cell? ⟨p, 1, none⟩ = some (.map (some bm)) := cell_at hp rfl
  have h1 := fun (q : Nat) => Kd.C_string (P := Try.prog) (w := w.drewN q) (src := 22) (dst := 9) (c := c) Try.underlying22 Try.underlying5 Try.underlying9 (Kd.C_drewN hk q)
  have h2 : ∀ q : Nat, _ := fun (q : Nat) => (hm.drewN q).look hn
  have hd : isIn (ks.map kz) (kz l) = true := (isIn_iff _ _).2 hin
  rw [show (strOfNums l).data.toList = kz l from rfl] at h2
  have X := Aside0.mk (And.intro hk (And.intro hm (And.intro hR hin)))
  clear hk hm hR hin hp
  go_enter Try.func15, Try.ntmps15
  go_wp2_with (go_at_call 21; refine (made_ok p bm _ c1).mono ?_; rintro e w' ⟨rfl, rfl⟩)
  go_quiet (fail)
  go_wp2
  go_ret3
  exact ⟨rfl, _, rfl⟩

end Go.Proofs.Ytkjjkmipgpoijaa
