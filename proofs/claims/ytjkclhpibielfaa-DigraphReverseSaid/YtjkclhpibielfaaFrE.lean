/- A queue: a slice that is cut at its head and appended to. -/
import Derived.Test.YtjkclhpibielfaaFrC
import Derived.Test.YtjkclhpibielfaaFrD
set_option linter.unusedVariables false
set_option linter.unusedSimpArgs false
namespace Go.Proofs.Ytjkclhpibielfaa
open Go.RowKit Go.Proofs.YtjkclhpibielfaaW.PrintWords Go.Proofs.Ytjkclhpibielfaa.PDigraphTells Mem

/-- v is a queue that holds q, in a block that satisfies ok. -/
def QR (w : World) (ok : Nat → Prop) (v : Value) (q : List Int) : Prop :=
  ∃ A cap, v = .slice A q.length cap ∧ (0 < q.length → ∃ g off cur, A = some ⟨g, off, none⟩ ∧ ok g ∧ w.heap[g]? = some (.cells cur 3 (0, 0)) ∧ q.length ≤ cap ∧ cap ≤ maxLen ∧ cur.size = off + cap ∧ (cur.toList.drop off).take q.length = encs (Value.int .i64) q)
theorem QR.step {w W : World} {ok : Nat → Prop} {v : Value} {q : List Int} (h : QR w ok v q) (hm : ∀ k, ok k → k < w.heap.size → W.heap[k]? = w.heap[k]?) : QR W ok v q := by
  obtain ⟨A, cap, rfl, h⟩ := h
  refine ⟨A, cap, rfl, fun hp => ?_⟩
  obtain ⟨g, off, cur, hA, hg, hh, r⟩ := h hp
  exact ⟨g, off, cur, hA, hg, (hm g hg (blk_lt' hh)).trans hh, r⟩
theorem QR.mono {w : World} {ok ok' : Nat → Prop} {v : Value} {q : List Int} (h : QR w ok v q) (hm : ∀ k, ok k → k < w.heap.size → ok' k) : QR w ok' v q := by
  obtain ⟨A, cap, rfl, h⟩ := h
  refine ⟨A, cap, rfl, fun hp => ?_⟩
  obtain ⟨g, off, cur, hA, hg, hh, r⟩ := h hp
  exact ⟨g, off, cur, hA, hm g hg (blk_lt' hh), hh, r⟩
theorem QR.at_ {w : World} {ok : Nat → Prop} {v : Value} {x : Int} {q : List Int} (h : QR w ok v (x :: q)) : ∃ g off cap, v = .slice (some ⟨g, off, none⟩) (q.length + 1) cap ∧ q.length + 1 ≤ cap ∧ w.cell? ⟨g, off, none⟩ = some (.int .i64 x) := by
  obtain ⟨A, cap, rfl, h⟩ := h
  obtain ⟨g, off, cur, rfl, hg, hh, hle, hcm, hcs, ht⟩ := h (by simp)
  refine ⟨g, off, cap, rfl, by simpa using hle, cell_at hh ?_⟩
  have h0 : ((cur.toList.drop off).take (x :: q).length)[0]? = some (.int .i64 x) := by rw [ht]; rfl
  rw [List.getElem?_take] at h0
  simp only [List.length_cons, Nat.zero_lt_succ, if_true, List.getElem?_drop, Nat.add_zero] at h0
  simpa using h0
theorem QR.tail {w : World} {ok : Nat → Prop} {x : Int} {q : List Int} {g off cap : Nat} (h : QR w ok (.slice (some ⟨g, off, none⟩) (q.length + 1) cap) (x :: q)) (A : Option Addr) (hA : 0 < q.length → A = some ⟨g, off + 1, none⟩) : QR w ok (.slice A q.length (cap - 1)) q := by
  obtain ⟨A1, cap1, e, h⟩ := h
  injection e with e1 e2 e3
  subst e1
  subst e3
  refine ⟨A, cap - 1, rfl, fun hp => ?_⟩
  obtain ⟨g1, off1, cur, e, hg, hh, hle, hcm, hcs, ht⟩ := h (by simp)
  injection e with e
  injection e with e4 e5
  subst e4
  subst e5
  simp only [List.length_cons] at hle ht
  refine ⟨g, off + 1, cur, hA hp, hg, hh, by omega, by omega, by omega, ?_⟩
  have h2 : ((cur.toList.drop off).take (q.length + 1)).drop 1 = (encs (Value.int .i64) (x :: q)).drop 1 := by rw [ht]
  rw [List.drop_take, List.drop_drop] at h2
  simpa [encs] using h2
theorem run_append_at {P : Program} (w : World) (t ty e : TypeId) (i : TypeInfo) (ht : P.underlying t = some (.slice e)) (hi : P.info? e = some i) (hz : i.size = 1)
    (g off sLen sCap : Nat) (cur : Array Value) (hg : w.heap[g]? = some (.cells cur e (0, 0)))
    (a : Addr) (c : Nat) (x : Value) (hnews : w.cell? a = some x) (h1 : x.oneCell' = true) (hroom : sLen + 1 ≤ sCap) (hfit : off + sLen + 1 ≤ cur.size) :
    (Builtin.append_ #[t, t] ty #[.slice (some ⟨g, off, none⟩) sLen sCap, .slice (some a) 1 c]).run P w =
      .ok (.slice (some ⟨g, off, none⟩) (sLen + 1) sCap) (w.setRow g (cur.toList.take (off + sLen) ++ [x] ++ cur.toList.drop (off + sLen + 1)).toArray) := by
  have hf := run_firstCells_some (P := P) w i.size 1 a 1 c [x] (by rw [hz]; rfl) (fun j u hj => by
    rcases j with _ | j
    · simp at hj; rw [← hj, add0']; exact hnews
    · simp at hj)
  have hst := run_storeCells_at P g (off + sLen) e [x] 0 cur w hg (by simpa using hfit) (by simpa using h1)
  simp only [Nat.add_zero, List.length_singleton] at hst
  have ha : (⟨g, off, none⟩ : Addr).add (sLen * i.size) = ⟨g, off + sLen, none⟩ := by
    rw [hz, Nat.mul_one]
    unfold Addr.add
    by_cases h : sLen = 0
    · subst h; simp
    · simp [h]
  simp [Builtin.append_, run_underlying ht, sizeOf, typeInfo, hi, Builtin.lenOf, hroom, hf, ha, hst]
theorem run_append_q (w : World) (ok : Nat → Prop) (v : Value) (q : List Int) (hQ : QR w ok v q) (hp : 0 < q.length) (a : Addr) (c : Nat) (x : Int) (hx : w.cell? a = some (.int .i64 x)) (hm : q.length + 1 ≤ 1000000) (ty : TypeId) :
    ∃ v' w', (Builtin.append_ #[36, 36] ty #[v, .slice (some a) 1 c]).run Try.prog w = .ok v' w' ∧ QR w' (fun k => ok k ∨ w.heap.size ≤ k) v' (q ++ [x]) ∧ Kp ok w w' := by
  obtain ⟨i, hi, hz, hs, hby⟩ := info3'
  obtain ⟨A, cap, rfl, h⟩ := hQ
  obtain ⟨g, off, cur, rfl, hg, hh, hle, hcm, hcs, ht⟩ := h hp
  by_cases hroom : q.length + 1 ≤ cap
  · have hr := run_append_at (P := Try.prog) w 36 ty 3 i Try.underlying36 hi hs g off q.length cap cur hh a c (.int .i64 x) hx rfl hroom (by omega)
    have hcl : cur.toList.length = cur.size := Array.length_toList
    have hl : (cur.toList.take (off + q.length)).length = off + q.length := by rw [List.length_take, hcl]; omega
    have hl2 : (cur.toList.drop (off + q.length + 1)).length = off + cap - (off + q.length + 1) := by rw [List.length_drop, hcl]; omega
    have he : (encs (Value.int .i64) q).length = q.length := by simp [encs]
    have hsz : (cur.toList.take (off + q.length) ++ [Value.int .i64 x] ++ cur.toList.drop (off + q.length + 1)).toArray.size = off + cap := by
      simp only [List.size_toArray, List.length_append, hl, hl2, List.length_singleton]; omega
    have htk : ((cur.toList.take (off + q.length) ++ [Value.int .i64 x] ++ cur.toList.drop (off + q.length + 1)).drop off).take (q ++ [x]).length = encs (Value.int .i64) (q ++ [x]) := by
      have h1 : (cur.toList.take (off + q.length)).drop off = encs (Value.int .i64) q := by rw [List.drop_take, show off + q.length - off = q.length by omega, ht]
      rw [List.append_assoc, List.drop_append_of_le_length (by rw [hl]; omega), h1, List.take_append, he, List.take_of_length_le (by rw [he]; simp), List.length_append, List.length_singleton, show q.length + 1 - q.length = 1 by omega]
      simp [encs]
    exact ⟨_, _, hr, ⟨some ⟨g, off, none⟩, cap, by simp, fun _ => ⟨g, off, _, rfl, .inl hg, setRow_heap w g cur _ 3 _ hh, by simpa using hroom, hcm, hsz, htk⟩⟩, ⟨rfl, rfl, rfl, by simp [World.setRow], fun k hk hne => setRow_other w g k _ (fun e => hne (by rw [e]; exact hg))⟩⟩
  · have holds : ∀ j u, (encs (Value.int .i64) q)[j]? = some u → w.cell? ((⟨g, off, none⟩ : Addr).add j) = some u := by
      intro j u hj
      have hjl : j < q.length := by have := (List.getElem?_eq_some_iff.1 hj).1; simpa [encs] using this
      rw [← ht, List.getElem?_take, if_pos hjl, List.getElem?_drop] at hj
      have ha : (⟨g, off, none⟩ : Addr).add j = ⟨g, off + j, none⟩ := by
        unfold Addr.add
        by_cases h : j = 0
        · subst h; simp
        · simp [h]
      rw [ha]
      exact cell_at hh (by simpa using hj)
    have hr := run_append_grow (P := Try.prog) w 36 ty 3 i (.int .i64 0) Try.underlying36 hi hz ⟨g, off, none⟩ q.length cap (encs (Value.int .i64) q) (by simp [encs, hs]) holds a 1 c [.int .i64 x] (by simp [hs]) (fun j u hj => by
      rcases j with _ | j
      · simp at hj; rw [← hj, add0']; exact hx
      · simp at hj) (by omega) (by omega) (growslice_fits (by omega) (by rw [hby]; omega))
    have hge := grownCap_ge w (q.length + 1) cap 3
    have hcm2 : grownCap w (q.length + 1) cap 3 ≤ maxLen := grownCap_le_maxLen w (q.length + 1) cap 3 (by unfold maxLen; omega)
    have he : (encs (Value.int .i64) q).length = q.length := by simp [encs]
    have hsz : ((encs (Value.int .i64) q).toArray ++ [Value.int .i64 x].toArray ++ Builtin.zeroCells (Value.int .i64 0).cells (grownCap w (q.length + 1) cap 3 - (q.length + 1))).size = 0 + grownCap w (q.length + 1) cap 3 := by
      simp only [Array.size_append, List.size_toArray, size_zeroCells, he, List.length_singleton]
      simp [Value.cells]; omega
    have htk : ((((encs (Value.int .i64) q).toArray ++ [Value.int .i64 x].toArray ++ Builtin.zeroCells (Value.int .i64 0).cells (grownCap w (q.length + 1) cap 3 - (q.length + 1))).toList.drop 0).take (q ++ [x]).length) = encs (Value.int .i64) (q ++ [x]) := by
      simp only [Array.toList_append, List.drop_zero]
      rw [List.take_append_of_le_length (by simp [encs])]
      rw [List.take_of_length_le (by simp [encs])]
      simp [encs]
    refine ⟨_, _, hr, ⟨some ⟨w.heap.size, 0, none⟩, _, by rw [List.length_append, List.length_singleton], fun _ => ⟨w.heap.size, 0, _, rfl, .inr (Nat.le_refl _), heap_alloc_new w.drew _, by rw [List.length_append, List.length_singleton]; exact hge, hcm2, hsz, htk⟩⟩, (Kp.refl ok w).drew.alloc _⟩
theorem wpList_append_q {w : World} {ops : Array Oper} {rest : List Oper} {o : Oper} {a : Act} {Q : Exit → Act → World → Prop} (hgd : o.guard = none) (s x : Operand)
    (ho : o.op = .call { callee := .builtin .append, args := #[s, x], argTypes := #[36, 36] }) (ok : Nat → Prop) (v : Value) (q : List Int) (ad : Addr) (c : Nat) (y : Int) (hs : a.eval s = v) (hx : a.eval x = .slice (some ad) 1 c)
    (hQ : QR w ok v q) (hp : 0 < q.length) (hy : w.cell? ad = some (.int .i64 y)) (hm : q.length + 1 ≤ 1000000)
    (h : ∀ v' w', QR w' (fun k => ok k ∨ w.heap.size ≤ k) v' (q ++ [y]) → Kp ok w w' → wpList Try.prog ops Q rest (a.put o.dst v') w') : wpList Try.prog ops Q (o :: rest) a w := by
  obtain ⟨v', w', hr, h2, h3⟩ := run_append_q w ok v q hQ hp ad c y hy hm o.type
  refine wpList_plain hgd fun K hK => ?_
  unfold Oper.wp execOp
  simp only [ho, resolve, invoke, builtin, Sem.run_bind, Sem.run_pure, Result.andThen_ok, List.map_toArray, List.map_cons, List.map_nil, hs, hx, hr]
  exact hK _ _ (h v' w' h2 h3)
end Go.Proofs.Ytjkclhpibielfaa
