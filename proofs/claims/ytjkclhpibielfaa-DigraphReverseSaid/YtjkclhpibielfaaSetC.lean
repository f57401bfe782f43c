/- Package bitset: Add and Remove of any set, Of, Cap. -/
import Derived.Test.YtjkclhpibielfaaSetB
set_option linter.unusedVariables false
set_option linter.unusedSimpArgs false
namespace Go.Proofs.Ytjkclhpibielfaa
open Go.RowKit Go.Proofs.YtjkclhpibielfaaW.PrintWords Mem Bit

theorem add_nil (i : Int) (w : World) : Calls Try.prog 32 #[.pointer none, .int .i64 i] w fun e w' => e = .returned (.bool false) ∧ w = w' := by
  go_enter Try.func32, Try.ntmps32
  go_wp2_with (go_at_call 38; refine (valid_nil _).mono ?_; rintro e w' ⟨rfl, rfl⟩)
  go_ret
  exact ⟨rfl, rfl⟩
theorem add_zero (p : Nat) (i : Int) (w : World) (c0 : w.cell? ⟨p, 0, none⟩ = some (.bool false)) : Calls Try.prog 32 #[.pointer (some ⟨p, 0, none⟩), .int .i64 i] w fun e w' => e = .returned (.bool false) ∧ w = w' := by
  go_enter Try.func32, Try.ntmps32
  go_wp2_with (go_at_call 38; refine (valid_zero p _ c0).mono ?_; rintro e w' ⟨rfl, rfl⟩)
  go_ret
  exact ⟨rfl, rfl⟩
theorem add_out (p : Nat) (ok : Nat → Prop) (bs : List Bool) (i : Int) (w : World) (hB : BS w ok p bs) (hi : i < 0 ∨ (bs.length : Int) ≤ i) :
    Calls Try.prog 32 #[.pointer (some ⟨p, 0, none⟩), .int .i64 i] w fun e w' => e = .returned (.bool false) ∧ w = w' := by
  obtain ⟨g, cc, hp, okp, hR, hl⟩ := hB.ex
  have c0 : w.cell? ⟨p, 0, none⟩ = some (.bool true) := cell_at hp rfl
  have c1 : w.cell? ⟨p, 1, none⟩ = some (.int .i64 bs.length) := cell_at hp rfl
  clear hp hR hB
  by_cases h0 : i < 0
  · clear hi
    go_enter Try.func32, Try.ntmps32
    go_wp2_with (go_at_call 38; refine (valid_ok p _ c0).mono ?_; rintro e w' ⟨rfl, rfl⟩)
    go_ret
    exact ⟨rfl, rfl⟩
  · have h1 : (bs.length : Int) ≤ i := by omega
    have h2 : 0 ≤ i := by omega
    clear hi
    go_enter Try.func32, Try.ntmps32
    go_wp2_with (go_at_call 38; refine (valid_ok p _ c0).mono ?_; rintro e w' ⟨rfl, rfl⟩)
    go_ret
    exact ⟨rfl, rfl⟩
theorem add_old (p : Nat) (ok : Nat → Prop) (bs : List Bool) (i : Nat) (w : World) (hB : BS w ok p bs) (hi : i < bs.length) (hb : bs.getD i false = true) :
    Calls Try.prog 32 #[.pointer (some ⟨p, 0, none⟩), .int .i64 i] w fun e w' => e = .returned (.bool false) ∧ w = w' := by
  obtain ⟨g, cc, hp, okp, hR, hl⟩ := hB.ex
  have c0 : w.cell? ⟨p, 0, none⟩ = some (.bool true) := cell_at hp rfl
  have c1 : w.cell? ⟨p, 1, none⟩ = some (.int .i64 bs.length) := cell_at hp rfl
  have hB' := Aside0.mk hB
  have hb' := Aside0.mk hb
  clear hp hR hB hb
  go_enter Try.func32, Try.ntmps32
  go_wp2_with (first
    | (go_at_call 38; refine (valid_ok p _ c0).mono ?_; rintro e w' ⟨rfl, rfl⟩)
    | (go_at_call 39; refine (has_in p ok bs i true _ hB'.out hi hb'.out).mono ?_; rintro e w' ⟨rfl, rfl⟩))
  go_ret
  exact ⟨rfl, rfl⟩
theorem add_any (v : Option Addr) (ok : Nat → Prop) (o : Option (List Bool)) (i : Int) (w : World) (h : PS w ok v o) :
    Calls Try.prog 32 #[.pointer v, .int .i64 i] w fun e w' => e = .returned (.bool (addB o i)) ∧ PS w' ok v (setO o i true) ∧ Kp ok w w' := by
  rcases h.ex with ⟨rfl, rfl⟩ | ⟨p, rfl, rfl, h3, h4⟩ | ⟨p, bs, rfl, rfl, h3⟩
  · refine (add_nil i w).mono ?_
    rintro e w' ⟨rfl, rfl⟩
    exact ⟨rfl, h, Kp.refl _ _⟩
  · refine (add_zero p i w (cell_at h4 rfl)).mono ?_
    rintro e w' ⟨rfl, rfl⟩
    exact ⟨rfl, h, Kp.refl _ _⟩
  · by_cases hi : 0 ≤ i ∧ i < bs.length
    · obtain ⟨j, rfl⟩ := Int.eq_ofNat_of_zero_le hi.1
      have hj : j < bs.length := by omega
      have e2 : setO (some bs) (j : Int) true = some (bs.set j true) := by simp [setO]
      rw [e2]
      by_cases hb : bs.getD j false = true
      · refine (add_old p ok bs j w h3 hj hb).mono ?_
        rintro e w' ⟨rfl, rfl⟩
        refine ⟨?_, PS.set_ (by rw [set_same bs j true (.inr hb)]; exact h3), Kp.refl _ _⟩
        have : addB (some bs) (j : Int) = false := by unfold addB hasO; simp only [Int.toNat_natCast, hb]; simp
        rw [this]
      · have hb' : bs.getD j false = false := by simpa using hb
        refine (add_in p ok bs j w h3 hj hb').mono ?_
        rintro e w' ⟨rfl, hB, hK⟩
        refine ⟨?_, PS.set_ hB, hK⟩
        have : addB (some bs) (j : Int) = true := by unfold addB hasO inO; simp only [Int.toNat_natCast, hb']; simp [hj]
        rw [this]
    · refine (add_out p ok bs i w h3 (by omega)).mono ?_
      rintro e w' ⟨rfl, rfl⟩
      have e3 : setO (some bs) i true = some bs := by
        unfold setO
        by_cases h0 : 0 ≤ i
        · simp only [Option.map_some, if_pos h0]; rw [set_same bs _ true (.inl (by omega))]
        · simp only [Option.map_some, if_neg h0]
      rw [e3]
      refine ⟨?_, h, Kp.refl _ _⟩
      have : addB (some bs) i = false := by
        unfold addB inO
        by_cases h0 : 0 ≤ i
        · have : ¬ i < bs.length := by omega
          simp [h0, this]
        · simp [h0]
      rw [this]
/-- Of. -/
def addAll (o : Option (List Bool)) (l : List Int) : Option (List Bool) := l.foldl (fun o i => setO o i true) o
def ofO (n : Int) (l : List Int) : Option (List Bool) := addAll (newO n) l
theorem addAll_snoc (o : Option (List Bool)) (l : List Int) (k : Nat) (h : k < l.length) : addAll o (l.take (k + 1)) = setO (addAll o (l.take k)) (l.getD k 0) true := by
  unfold addAll
  rw [List.take_succ_eq_append_getElem h, List.foldl_append]
  simp [List.getD_eq_getElem?_getD, h]
theorem C_cellI {w : World} {A : Option Addr} {k : IntKind} {l : List Int} (h : Kd.C (Kd.int k) w A l.length l) (i : Nat) (hi : i < l.length) : ∃ ad, A = some ad ∧ w.cell? (ad.add i) = some (.int k (l.getD i 0)) := by
  obtain ⟨ad, cs, hA, hcs, hK, hcell⟩ := ReadsRow.get_ h 0 (i : Int) (by omega) (by omega)
  obtain rfl : cs = [.int k (l.getD i 0)] := by have hK' : cs = [Value.int k _] := hK; simpa using hK'
  refine ⟨ad, hA, ?_⟩
  have := hcell 0 _ rfl
  have e : ad.add ((i : Int).toNat * (Kd.int k).sz + 0) = ad.add i := by
    show ad.add (i * 1 + 0) = ad.add i
    rw [Nat.mul_one, Nat.add_zero]
  rwa [e] at this

set_option maxHeartbeats 400000 in
theorem of_any (n : Int) (A : Option Addr) (c : Nat) (l : List Int) (w : World) (hC : Kd.C (Kd.int .i64) w A l.length l) (hm : l.length ≤ 17592186044416) :
    Calls Try.prog 30 #[.int .i64 n, .slice A l.length c] w fun e w' => ∃ v, e = .returned (.pointer v) ∧ PS w' (fun k => w.heap.size ≤ k) v (ofO n l) ∧ Kp (fun _ => False) w w' := by
  have hC' := Aside0.mk hC
  clear hC
  go_enter Try.func30, Try.ntmps30
  go_wp2_with fail
  refine (new_any n w).mono ?_
  rintro e w1 ⟨v, rfl, hP, hK⟩
  have hI : Aside0 (PS w1 (fun k => w.heap.size ≤ k) v (addAll (newO n) (l.take 0)) ∧ Kp (fun k => w.heap.size ≤ k) w w1) := ⟨by simpa [addAll] using hP, hK.mono (fun _ h => h.elim)⟩
  clear hP hK
  go_wp2
  go_loopw [12] (fun i wr => ∃ k : Nat, k ≤ l.length ∧ i = .int .i64 k ∧ Aside0 (PS wr (fun k => w.heap.size ≤ k) v (addAll (newO n) (l.take k)) ∧ Kp (fun k => w.heap.size ≤ k) w wr)) (fun i _ => l.length - (intOf i).toNat)
  case atStart => exact ⟨0, Nat.zero_le _, rfl, hI⟩
  case round =>
    obtain ⟨k, hk, rfl, hI2⟩ := hrel
    by_cases hlt : k < l.length
    · obtain ⟨ad, rfl, hc⟩ := C_cellI (Kd.C_below hC'.out (hI2.out.2.below (fun _ h => h))) k hlt
      have hS := Aside0.mk (addAll_snoc (newO n) l k hlt)
      obtain ⟨x, hx⟩ : ∃ x, x = l.getD k 0 := ⟨_, rfl⟩
      rw [← hx] at hc hS
      clear hx
      go_wp2_with (go_at_call 32; refine (add_any v _ _ x _ hI2.out.1).mono ?_; rintro e w2 ⟨rfl, hP2, hK2⟩; have hI3 := Aside0.mk (And.intro hP2 (hI2.out.2.then_ hK2 (fun k hk => .inl hk))); clear hP2 hK2)
      go_roundw
      case rel => exact ⟨k + 1, by omega, by go_num, by rw [hS.out]; exact hI3⟩
      case measure => simp [intOf]; omega
    · have hke : k = l.length := by omega
      subst hke
      go_wp2
      go_ret
      refine ⟨_, rfl, ?_, Kp.of_below (hI2.out.2.below (fun _ h => h)) _⟩
      have := hI2.out.1
      rwa [List.take_length] at this
end Go.Proofs.Ytjkclhpibielfaa
