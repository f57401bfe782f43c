/- The program's reader: predicate; ok, left, stop, size, unzigzag. -/
import Derived.Test.YtjcekelmbpenkaaVarC
import Derived.Test.YtjcekelmbpenkaaRdPure
set_option linter.unusedVariables false
set_option linter.unusedSimpArgs false
namespace Go.Proofs.Ytjcekelmbpenkaa
open Go.RowKit Go.Proofs.YtjcekelmbpenkaaW.PrintWords Mem VarPure

/-- The cells of a made reader at block p: the row v of b, position i, error f. -/
abbrev rc (v : Value) (i f : Int) : Array Value := #[v, .int .i64 i, .int .i64 f, .bool true]
structure Cur (w : World) (ok : Nat → Prop) (p : Nat) (A : Option Addr) (c : Nat) (b : List Int) (i : Nat) (f : Int) : Prop where
  hp : w.heap[p]? = some (.cells (rc (.slice A b.length c) i f) 46 (0, 0))
  okp : ok p
  hi : i ≤ b.length
  hb : b.length ≤ 100000
  hR : Kd.R Byt 5 w 0 (fun k => ok k ∧ k ≠ p) (.slice A b.length c) b
  bs : Bs b
structure Rdr (w : World) (ok : Nat → Prop) (p : Nat) (l : List Int) (f : Int) : Prop where
  ex : ∃ A c b i, Cur w ok p A c b i f ∧ l = b.drop i

theorem _root_.Go.Proofs.Ytjcekelmbpenkaa.Mem.Kp.setp {w W : World} {p : Nat} (h : Kp (fun k => k = p) w W) (j : Nat) (v : Value) : Kp (fun k => k = p) w (W.setCell ⟨p, j, none⟩ v) := h.setCell (p := ⟨p, j, none⟩) (.inl rfl) v
theorem Cur.step {w w1 : World} {ok : Nat → Prop} {p c i : Nat} {A : Option Addr} {b : List Int} {f : Int} (h : Cur w ok p A c b i f) (hm : ∀ k, ok k → k < w.heap.size → w1.heap[k]? = w.heap[k]?) : Cur w1 ok p A c b i f :=
  ⟨(hm p h.okp (blk_lt' h.hp)).trans h.hp, h.okp, h.hi, h.hb, Kd.R_step h.hR (fun k hk hlt => hm k hk.1 hlt), h.bs⟩
theorem Cur.mono {w : World} {ok ok' : Nat → Prop} {p c i : Nat} {A : Option Addr} {b : List Int} {f : Int} (h : Cur w ok p A c b i f) (hm : ∀ k, ok k → ok' k) : Cur w ok' p A c b i f :=
  ⟨h.hp, hm _ h.okp, h.hi, h.hb, Kd.R_mono h.hR (fun k hk => ⟨hm k hk.1, hk.2⟩), h.bs⟩
theorem Cur.set {w : World} {ok : Nat → Prop} {p c i : Nat} {A : Option Addr} {b : List Int} {f : Int} (h : Cur w ok p A c b i f) {w1 : World} {i' : Nat} {f' : Int} (hp : w1.heap[p]? = some (.cells (rc (.slice A b.length c) i' f') 46 (0, 0))) (hi : i' ≤ b.length) (hk : Kp (fun k => k = p) w w1) : Cur w1 ok p A c b i' f' :=
  ⟨hp, h.okp, hi, h.hb, Kd.R_kept h.hR hk.kept (fun k hk => hk.2), h.bs⟩
theorem Cur.bound {w : World} {ok : Nat → Prop} {p c i : Nat} {A : Option Addr} {b : List Int} {f : Int} (h : Cur w ok p A c b i f) : Cur w (fun k => ok k ∧ k < w.heap.size) p A c b i f :=
  ⟨h.hp, ⟨h.okp, blk_lt' h.hp⟩, h.hi, h.hb, Kd.R_mono (Kd.R_bound h.hR) (fun k hk => ⟨⟨hk.1.1, hk.2.2.1⟩, hk.1.2⟩), h.bs⟩
theorem Rdr.bound {w : World} {ok : Nat → Prop} {p : Nat} {l : List Int} {f : Int} (h : Rdr w ok p l f) : Rdr w (fun k => ok k ∧ k < w.heap.size) p l f := by
  obtain ⟨A, c, b, i, h, e⟩ := h.ex
  exact ⟨⟨A, c, b, i, h.bound, e⟩⟩
theorem Rdr.okp {w : World} {ok : Nat → Prop} {p : Nat} {l : List Int} {f : Int} (h : Rdr w ok p l f) : ok p := by
  obtain ⟨A, c, b, i, h, e⟩ := h.ex
  exact h.okp
theorem Rdr.lt {w : World} {ok : Nat → Prop} {p : Nat} {l : List Int} {f : Int} (h : Rdr w ok p l f) : p < w.heap.size := by
  obtain ⟨A, c, b, i, h, e⟩ := h.ex
  exact blk_lt' h.hp
theorem Rdr.step {w w1 : World} {ok : Nat → Prop} {p : Nat} {l : List Int} {f : Int} (h : Rdr w ok p l f) (hm : ∀ k, ok k → k < w.heap.size → w1.heap[k]? = w.heap[k]?) : Rdr w1 ok p l f := by
  obtain ⟨A, c, b, i, h, e⟩ := h.ex
  exact ⟨⟨A, c, b, i, h.step hm, e⟩⟩
theorem Rdr.mono {w : World} {ok ok' : Nat → Prop} {p : Nat} {l : List Int} {f : Int} (h : Rdr w ok p l f) (hm : ∀ k, ok k → ok' k) : Rdr w ok' p l f := by
  obtain ⟨A, c, b, i, h, e⟩ := h.ex
  exact ⟨⟨A, c, b, i, h.mono hm, e⟩⟩
theorem Rdr.kept {w w1 : World} {ok S : Nat → Prop} {p : Nat} {l : List Int} {f : Int} (h : Rdr w ok p l f) (hk : Kp S w w1) (hn : ∀ k, ok k → ¬ S k) : Rdr w1 ok p l f :=
  h.step (fun k ho hlt => hk.block hlt (hn k ho))
theorem Rdr.bs {w : World} {ok : Nat → Prop} {p : Nat} {l : List Int} {f : Int} (h : Rdr w ok p l f) : Bs l ∧ l.length ≤ 100000 := by
  obtain ⟨A, c, b, i, g, rfl⟩ := h.ex
  exact ⟨g.bs.drop _, by have := g.hb; rw [List.length_drop]; omega⟩

theorem ok_any {p : Nat} {v : Value} {i f : Int} {t : Nat} {fr} (w : World) (hp : w.heap[p]? = some (.cells (rc v i f) t fr)) : Calls Try.prog 33 #[.pointer (some ⟨p, 0, none⟩)] w fun e w' => e = .returned (.bool true) ∧ w' = w := by
  have c3 : w.cell? ⟨p, 3, none⟩ = some (.bool true) := by simp [World.cell?, hp]
  clear hp
  go_enter Try.func33, Try.ntmps33
  go_wp2
  go_ret
  exact ⟨rfl, rfl⟩
theorem ok_nil (w : World) : Calls Try.prog 33 #[.pointer none] w fun e w' => e = .returned (.bool false) ∧ w' = w := by
  go_enter Try.func33, Try.ntmps33
  go_wp2
  go_ret
  exact ⟨rfl, rfl⟩

theorem left_any {w : World} {ok : Nat → Prop} {p c i : Nat} {A : Option Addr} {b : List Int} {f : Int} (h : Cur w ok p A c b i f) :
    Calls Try.prog 42 #[.pointer (some ⟨p, 0, none⟩)] w fun e w' => e = .returned (.int .i64 ((b.length - i : Nat) : Int)) ∧ ∃ n, w' = w.drewN n := by
  have c0 : w.cell? ⟨p, 0, none⟩ = some (.slice A b.length c) := cell_at h.hp rfl
  have c1 : w.cell? ⟨p, 1, none⟩ = some (.int .i64 i) := cell_at h.hp rfl
  have hi := h.hi
  have hb := h.hb
  clear h
  go_enter Try.func42, Try.ntmps42
  go_wp2
  go_quiet (fail)
  go_wp2
  go_ret
  refine ⟨?_, _, rfl⟩
  show Ending.returned (.int .i64 _) = _
  congr 2
  omega

theorem stop_ok {w : World} {ok : Nat → Prop} {p c i : Nat} {A : Option Addr} {b : List Int} (h : Cur w ok p A c b i 0) (e : Int) (he : I64 e) :
    Calls Try.prog 46 #[.pointer (some ⟨p, 0, none⟩), .int .i64 e] w fun r w' => r = .returned (.tuple #[]) ∧ Cur w' ok p A c b b.length e ∧ Kp (fun k => k = p) w w' := by
  have c0 : w.cell? ⟨p, 0, none⟩ = some (.slice A b.length c) := cell_at h.hp rfl
  have c2 : w.cell? ⟨p, 2, none⟩ = some (.int .i64 0) := cell_at h.hp rfl
  have f2 : w.frozen? ⟨p, 2, none⟩ = false := free_at h.hp 2
  have hp1 : (w.setCell ⟨p, 2, none⟩ (.int .i64 e)).heap[p]? = some (.cells (rc (.slice A b.length c) i e) 46 (0, 0)) := by rw [set_at h.hp]; rfl
  have d0 : (w.setCell ⟨p, 2, none⟩ (.int .i64 e)).cell? ⟨p, 0, none⟩ = some (.slice A b.length c) := cell_at hp1 rfl
  have d1 : (w.setCell ⟨p, 2, none⟩ (.int .i64 e)).cell? ⟨p, 1, none⟩ = some (.int .i64 i) := cell_at hp1 rfl
  have g1 : (w.setCell ⟨p, 2, none⟩ (.int .i64 e)).frozen? ⟨p, 1, none⟩ = false := free_at hp1 1
  have e2 : w.cell? ⟨p, 2, none⟩ ≠ none := by rw [c2]; simp
  have h' := Aside0.mk h
  have hp1' := Aside0.mk hp1
  clear h hp1
  go_enter Try.func46, Try.ntmps46
  go_wp2
  go_end0
  refine ⟨rfl, h'.out.set ?_ (Nat.le_refl _) ?_, ?_⟩
  · rw [set_at hp1'.out]; rfl
  · exact ((Kp.refl _ w).setp 2 _).setp 1 _
  · exact ((Kp.refl _ w).setp 2 _).setp 1 _

theorem i64_xor0 (x : Int) (h : 0 ≤ x) (h2 : x < 9223372036854775808) : Go.bits .xor .i64 x 0 = x := by
  obtain ⟨a, rfl⟩ := Int.eq_ofNat_of_zero_le h
  show IntKind.i64.wrap ((BitVec.ofInt 64 (a : Int) ^^^ BitVec.ofInt 64 (0 : Int)).toNat : Int) = _
  rw [BitVec.toNat_xor, ofInt_u64 a (by omega), show (BitVec.ofInt 64 (0 : Int)).toNat = 0 from rfl, Nat.xor_zero]
  simp [IntKind.wrap, IntKind.bits, IntKind.signed]
  omega
theorem i64_xor1 (x : Int) (h : 0 ≤ x) (h2 : x < 9223372036854775808) : Go.bits .xor .i64 x (-1) = -x - 1 := by
  obtain ⟨a, rfl⟩ := Int.eq_ofNat_of_zero_le h
  show IntKind.i64.wrap ((BitVec.ofInt 64 (a : Int) ^^^ BitVec.ofInt 64 (-1 : Int)).toNat : Int) = _
  rw [BitVec.toNat_xor, ofInt_u64 a (by omega), show (BitVec.ofInt 64 (-1 : Int)).toNat = 18446744073709551615 from by decide, xor_ones a (by omega)]
  simp [IntKind.wrap, IntKind.bits, IntKind.signed]
  omega
theorem unzz_f (z : Nat) (hz : z < 18446744073709551616) : Go.bits .xor .i64 ((z : Int) / 2) (wrap64 (-wrap64 (Go.bits .and .u64 (z : Int) 1))) = uzz z := by
  have e : Go.bits .and .u64 (z : Int) 1 = ((z % 2 : Nat) : Int) := by
    rw [show (1 : Int) = ((1 : Nat) : Int) from rfl, u64_and_nat z 1 hz (by omega), Nat.and_one_is_mod]
  rw [e]
  unfold uzz
  rcases Nat.mod_two_eq_zero_or_one z with h | h
  · rw [h, if_pos rfl]
    rw [show wrap64 (-wrap64 ((0 : Nat) : Int)) = 0 from by simp [wrap64], i64_xor0 _ (by omega) (by omega)]
    omega
  · rw [h, if_neg (by omega)]
    rw [show wrap64 (-wrap64 ((1 : Nat) : Int)) = -1 from by simp [wrap64], i64_xor1 _ (by omega) (by omega)]
    omega
theorem unzz_any (z : Nat) (w : World) (hz : z < 18446744073709551616) :
    Calls Try.prog 47 #[.int .u64 z] w fun e w' => e = .returned (.int .i64 (uzz z)) ∧ w' = w := by
  have hz' := Aside0.mk hz
  go_enter Try.func47, Try.ntmps47
  go_wp2
  go_ret
  refine ⟨?_, rfl⟩
  show Ending.returned (.int .i64 _) = _
  congr 2
  exact unzz_f z hz'.out
end Go.Proofs.Ytjcekelmbpenkaa
