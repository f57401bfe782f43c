/- Package bitset: Has, Add, Remove. -/
import Derived.Test.YtjkclhpibielfaaSetA
set_option linter.unusedVariables false
set_option linter.unusedSimpArgs false
namespace Go.Proofs.Ytjkclhpibielfaa
open Go.RowKit Go.Proofs.YtjkclhpibielfaaW.PrintWords Mem Bit

theorem word_at {w : World} {ok : Nat → Prop} {g cc : Nat} {bs : List Bool} (h : Kd.R (Kd.int .u64) 58 w 0 ok (.slice (some ⟨g, 0, none⟩) (wds bs).length cc) (wds bs)) (k : Nat) (hk : k < (bs.length + 63) / 64) :
    w.cell? ⟨g, k, none⟩ = some (.int .u64 (wd bs k : Nat)) ∧ w.frozen? ⟨g, k, none⟩ = false := by
  have h1 := Kd.R_cell 0 h (k : Int) (by omega) (by rw [wds_length]; omega)
  have e : rdOf (0 : Int) (wds bs) (k : Int) = (wd bs k : Nat) := by
    unfold rdOf
    rw [Int.toNat_natCast, wds_getD bs k hk]
  rw [e] at h1
  exact h1

theorem has_in (p : Nat) (ok : Nat → Prop) (bs : List Bool) (i : Nat) (b : Bool) (w : World) (hB : BS w ok p bs) (hi : i < bs.length) (hb : bs.getD i false = b) :
    Calls Try.prog 39 #[.pointer (some ⟨p, 0, none⟩), .int .i64 i] w fun e w' => e = .returned (.bool b) ∧ w = w' := by
  obtain ⟨g, cc, hp, okp, hR, hl⟩ := hB.ex
  have c0 : w.cell? ⟨p, 0, none⟩ = some (.bool true) := cell_at hp rfl
  have c1 : w.cell? ⟨p, 1, none⟩ = some (.int .i64 bs.length) := cell_at hp rfl
  have c2 : w.cell? ⟨p, 2, none⟩ = some (.slice (some ⟨g, 0, none⟩) (wds bs).length cc) := cell_at hp rfl
  have c3 := (word_at hR (i / 64) (by omega)).1
  have hw := has_word bs i
  rw [hb] at hw
  rw [wds_length] at c2
  have e1 : ((i : Int) / 64) = ((i / 64 : Nat) : Int) := by omega
  have e2 : ((i : Int) % 64) = ((i % 64 : Nat) : Int) := by omega
  have i1 : i / 64 < (bs.length + 63) / 64 := by omega
  have i2 : i % 64 < 64 := by omega
  have i3 : i ≤ 65536 := by omega
  obtain ⟨a, ha⟩ : ∃ a, a = i / 64 := ⟨_, rfl⟩
  obtain ⟨r, hr⟩ : ∃ r, r = i % 64 := ⟨_, rfl⟩
  obtain ⟨m, hm⟩ : ∃ m, m = (bs.length + 63) / 64 := ⟨_, rfl⟩
  rw [← ha] at c3 hw e1 i1
  rw [← hr] at hw e2 i2
  rw [← hm] at c2 i1
  clear hp hR hB ha hr hm hb
  cases b
  · simp only [Bool.false_eq_true, if_false] at hw
    go_enter Try.func39, Try.ntmps39
    go_wp2_with (go_at_call 38; refine (valid_ok p _ c0).mono ?_; rintro e w' ⟨rfl, rfl⟩)
    go_ret
    exact ⟨rfl, rfl⟩
  · simp only [if_true] at hw
    go_enter Try.func39, Try.ntmps39
    go_wp2_with (go_at_call 38; refine (valid_ok p _ c0).mono ?_; rintro e w' ⟨rfl, rfl⟩)
    go_ret
    exact ⟨rfl, rfl⟩

theorem wrap_n (n : Nat) (h : n < 9223372036854775808) : IntKind.i64.wrap (n : Int) = n := by
  simp [IntKind.wrap, IntKind.signed, IntKind.bits]; omega
/-- What a set's memory is behind a store of word a. -/
theorem BS.put {w : World} {ok : Nat → Prop} {p g cc : Nat} {bs : List Bool} (hp : w.heap[p]? = some (.cells #[.bool true, .int .i64 bs.length, .slice (some ⟨g, 0, none⟩) (wds bs).length cc] 57 (0, 0))) (okp : ok p)
    (hR : Kd.R (Kd.int .u64) 58 w 0 (fun k => ok k ∧ k ≠ p) (.slice (some ⟨g, 0, none⟩) (wds bs).length cc) (wds bs)) (hl : bs.length ≤ 65536) (i : Nat) (hi : i < bs.length) (b : Bool) (v : Int)
    (hv : (wds bs).set (i / 64) v = wds (bs.set i b)) : BS (w.setCell ⟨g, i / 64, none⟩ (.int .u64 v)) ok p (bs.set i b) ∧ Kp ok w (w.setCell ⟨g, i / 64, none⟩ (.int .u64 v)) := by
  have hg : ok g ∧ g ≠ p := hR.1 g (by simp [Value.ownBlock])
  have h2 := (Kd.R_put hR ((i / 64 : Nat) : Int) v).1
  rw [Int.toNat_natCast, hv] at h2
  have h3 : (wds (bs.set i b)).length = (wds bs).length := by rw [wds_length, wds_length, List.length_set]
  refine ⟨⟨⟨g, cc, ?_, okp, ?_, by simpa using hl⟩⟩, (Kp.refl ok w).setCell (.inl hg.1) _⟩
  · rw [h3, List.length_set]
    exact (Below.heap_setCell w ⟨g, i / 64, none⟩ _ p (fun e => hg.2 e.symm)).trans hp
  · rw [h3]; exact h2

set_option maxHeartbeats 400000 in
theorem add_in (p : Nat) (ok : Nat → Prop) (bs : List Bool) (i : Nat) (w : World) (hB : BS w ok p bs) (hi : i < bs.length) (hb : bs.getD i false = false) :
    Calls Try.prog 32 #[.pointer (some ⟨p, 0, none⟩), .int .i64 i] w fun e w' => e = .returned (.bool true) ∧ BS w' ok p (bs.set i true) ∧ Kp ok w w' := by
  obtain ⟨g, cc, hp, okp, hR, hl⟩ := hB.ex
  have c0 : w.cell? ⟨p, 0, none⟩ = some (.bool true) := cell_at hp rfl
  have c1 : w.cell? ⟨p, 1, none⟩ = some (.int .i64 bs.length) := cell_at hp rfl
  have c2 : w.cell? ⟨p, 2, none⟩ = some (.slice (some ⟨g, 0, none⟩) (wds bs).length cc) := cell_at hp rfl
  have c3 := (word_at hR (i / 64) (by omega)).1
  have f3 := (word_at hR (i / 64) (by omega)).2
  rw [wds_length] at c2
  have H := Aside0.mk (BS.put (ok := ok) hp okp hR hl i hi true _ (wds_add bs i hi))
  have hB' := Aside0.mk hB
  have e1 : ((i : Int) / 64) = ((i / 64 : Nat) : Int) := by omega
  have e2 : ((i : Int) % 64) = ((i % 64 : Nat) : Int) := by omega
  have i1 : i / 64 < (bs.length + 63) / 64 := by omega
  have i2 : i % 64 < 64 := by omega
  have i3 : i ≤ 65536 := by omega
  obtain ⟨a, ha⟩ : ∃ a, a = i / 64 := ⟨_, rfl⟩
  obtain ⟨r, hr⟩ : ∃ r, r = i % 64 := ⟨_, rfl⟩
  obtain ⟨m, hm⟩ : ∃ m, m = (bs.length + 63) / 64 := ⟨_, rfl⟩
  rw [← ha] at c3 f3 e1 i1 H
  rw [← hr] at e2 i2 H
  rw [← hm] at c2 i1
  obtain ⟨V, hV⟩ : ∃ V, V = ((wd bs a : Nat) : Int) := ⟨_, rfl⟩
  rw [← hV] at c3 H
  have hb' := Aside0.mk hb
  have e3 := wrap_n a (by omega)
  have e4 : (i : Int).tmod 64 = (r : Int) := by rw [Int.tmod_eq_emod_of_nonneg (by omega)]; exact e2
  clear hp hR hB ha hr hm hb hV
  go_enter Try.func32, Try.ntmps32
  go_wp2_with (first
    | (go_at_call 38; refine (valid_ok p _ c0).mono ?_; rintro e w' ⟨rfl, rfl⟩)
    | (go_at_call 39; refine (has_in p ok bs i false _ hB'.out hi hb'.out).mono ?_; rintro e w' ⟨rfl, rfl⟩))
  refine still_tail 13 (by kernel_rfl) (by kernel_rfl) ?_
  simp only [List.take_succ_cons, List.take_zero, List.drop_succ_cons, List.drop_zero]
  repeat still_step
  --!STOP
  refine wpStill_nil ?_
  go_wp2
  go_ret
  exact ⟨rfl, H.out.1.step (fun k _ _ => rfl), H.out.2.drew⟩

/-- A set's pointer, in whatever state: nil, not made by New, or a set (some bs). -/
structure PS (w : World) (ok : Nat → Prop) (v : Option Addr) (o : Option (List Bool)) : Prop where
  ex : (v = none ∧ o = none) ∨ (∃ p, v = some ⟨p, 0, none⟩ ∧ o = none ∧ ok p ∧ w.heap[p]? = some (.cells #[.bool false, .int .i64 0, .slice none 0 0] 57 (0, 0))) ∨
    ∃ p bs, v = some ⟨p, 0, none⟩ ∧ o = some bs ∧ BS w ok p bs
theorem PS.step {w w1 : World} {ok : Nat → Prop} {v : Option Addr} {o : Option (List Bool)} (h : PS w ok v o) (hm : ∀ k, ok k → k < w.heap.size → w1.heap[k]? = w.heap[k]?) : PS w1 ok v o := by
  rcases h.ex with h | ⟨p, h1, h2, h3, h4⟩ | ⟨p, bs, h1, h2, h3⟩
  · exact ⟨.inl h⟩
  · exact ⟨.inr (.inl ⟨p, h1, h2, h3, (hm p h3 (blk_lt' h4)).trans h4⟩)⟩
  · exact ⟨.inr (.inr ⟨p, bs, h1, h2, h3.step hm⟩)⟩
theorem PS.mono {w : World} {ok ok' : Nat → Prop} {v : Option Addr} {o : Option (List Bool)} (h : PS w ok v o) (hm : ∀ k, ok k → ok' k) : PS w ok' v o := by
  rcases h.ex with h | ⟨p, h1, h2, h3, h4⟩ | ⟨p, bs, h1, h2, h3⟩
  · exact ⟨.inl h⟩
  · exact ⟨.inr (.inl ⟨p, h1, h2, hm _ h3, h4⟩)⟩
  · exact ⟨.inr (.inr ⟨p, bs, h1, h2, h3.mono hm⟩)⟩
theorem PS.bound {w : World} {ok : Nat → Prop} {v : Option Addr} {o : Option (List Bool)} (h : PS w ok v o) : PS w (fun k => ok k ∧ k < w.heap.size) v o := by
  rcases h.ex with h | ⟨p, h1, h2, h3, h4⟩ | ⟨p, bs, h1, h2, h3⟩
  · exact ⟨.inl h⟩
  · exact ⟨.inr (.inl ⟨p, h1, h2, ⟨h3, blk_lt' h4⟩, h4⟩)⟩
  · exact ⟨.inr (.inr ⟨p, bs, h1, h2, h3.bound⟩)⟩
theorem PS.drewN {w : World} {ok : Nat → Prop} {v : Option Addr} {o : Option (List Bool)} (h : PS w ok v o) (q : Nat) : PS (w.drewN q) ok v o := h.step (fun k _ hk => rfl)
theorem PS.alloc {w : World} {ok : Nat → Prop} {v : Option Addr} {o : Option (List Bool)} (h : PS w ok v o) (x : Obj) : PS (w.alloc x) ok v o := h.step (fun k _ hk => Below.heap_alloc w x k hk)
theorem PS.kp {w W : World} {ok S : Nat → Prop} {v : Option Addr} {o : Option (List Bool)} (h : PS w ok v o) (hk : Kp S w W) (hd : ∀ k, ok k → ¬ S k) : PS W ok v o := h.step (fun k ho hlt => hk.block hlt (hd k ho))
theorem PS.none_ (w : World) (ok : Nat → Prop) : PS w ok none none := ⟨.inl ⟨rfl, rfl⟩⟩
theorem PS.set_ {w : World} {ok : Nat → Prop} {p : Nat} {bs : List Bool} (h : BS w ok p bs) : PS w ok (some ⟨p, 0, none⟩) (some bs) := ⟨.inr (.inr ⟨p, bs, rfl, rfl, h⟩)⟩

def newO (n : Int) : Option (List Bool) := if n < 0 ∨ 65536 < n then none else some (List.replicate n.toNat false)
def hasO (o : Option (List Bool)) (i : Int) : Bool := match o with | none => false | some bs => decide (0 ≤ i) && bs.getD i.toNat false
def inO (o : Option (List Bool)) (i : Int) : Bool := match o with | none => false | some bs => decide (0 ≤ i) && decide (i < bs.length)
def setO (o : Option (List Bool)) (i : Int) (b : Bool) : Option (List Bool) := o.map fun bs => if 0 ≤ i then bs.set i.toNat b else bs
def addB (o : Option (List Bool)) (i : Int) : Bool := inO o i && !hasO o i
theorem set_same (bs : List Bool) (i : Nat) (b : Bool) (h : bs.length ≤ i ∨ bs.getD i false = b) : bs.set i b = bs := by
  apply List.ext_getElem?
  intro j
  rw [List.getElem?_set]
  by_cases e : i = j
  · subst e
    rw [if_pos rfl]
    by_cases hi : i < bs.length
    · rw [if_pos hi]
      rcases h with h | h
      · omega
      · rw [getD_lt bs i hi] at h
        rw [List.getElem?_eq_getElem hi, h]
    · rw [if_neg hi, List.getElem?_eq_none (by omega)]
  · rw [if_neg e]

theorem new_any (n : Int) (w : World) : Calls Try.prog 37 #[.int .i64 n] w fun e w' => ∃ v, e = .returned (.pointer v) ∧ PS w' (fun k => w.heap.size ≤ k) v (newO n) ∧ Kp (fun _ => False) w w' := by
  unfold newO
  by_cases h : n < 0 ∨ 65536 < n
  · rw [if_pos h]
    refine (new_bad n w h).mono ?_
    rintro e w' ⟨rfl, rfl⟩
    exact ⟨_, rfl, PS.none_ _ _, Kp.refl _ _⟩
  · rw [if_neg h]
    obtain ⟨m, rfl⟩ := Int.eq_ofNat_of_zero_le (show 0 ≤ n by omega)
    refine (new_ok m w (by omega)).mono ?_
    rintro e w' ⟨p, rfl, hB, hK⟩
    exact ⟨_, rfl, PS.set_ (by simpa using hB), hK⟩
theorem has_any (v : Option Addr) (ok : Nat → Prop) (o : Option (List Bool)) (i : Int) (w : World) (h : PS w ok v o) :
    Calls Try.prog 39 #[.pointer v, .int .i64 i] w fun e w' => e = .returned (.bool (hasO o i)) ∧ ∃ q, w' = w.drewN q := by
  rcases h.ex with ⟨rfl, rfl⟩ | ⟨p, rfl, rfl, h3, h4⟩ | ⟨p, bs, rfl, rfl, h3⟩
  · refine (has_nil i w).mono ?_
    rintro e w' ⟨rfl, rfl⟩
    exact ⟨rfl, 0, rfl⟩
  · refine (has_zero p i w (cell_at h4 rfl)).mono ?_
    rintro e w' ⟨rfl, rfl⟩
    exact ⟨rfl, 0, rfl⟩
  · by_cases hi : 0 ≤ i ∧ i < bs.length
    · obtain ⟨j, rfl⟩ := Int.eq_ofNat_of_zero_le hi.1
      refine (has_in p ok bs j (hasO (some bs) j) w h3 (by omega) (by simp [hasO])).mono ?_
      rintro e w' ⟨rfl, rfl⟩
      exact ⟨rfl, 0, rfl⟩
    · refine (has_out p ok bs i w h3 (by omega)).mono ?_
      rintro e w' ⟨rfl, hq⟩
      refine ⟨?_, hq⟩
      unfold hasO
      by_cases h0 : 0 ≤ i
      · simp only [h0, decide_true, Bool.true_and]
        rw [getD_past bs _ (by omega)]
      · simp only [h0, decide_false, Bool.false_and]
end Go.Proofs.Ytjkclhpibielfaa
