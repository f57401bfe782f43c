/- The table of package intern: what its memory says, and the contracts of its small methods. -/
import Derived.Test.YtkjjkmipgpoijaaMem
import Derived.Test.YtkjjkmipgpoijaaRows
import Derived.WalkKit
import Derived.WalkSpells
import Derived.WalkLawsBesides
import Derived.Maps.OwnSet
import Derived.Maps.Views
import Derived.StillTailTactics
import Derived.Deep.QuietTactic
import Derived.BigQuiet
import Derived.StringKeys
import Derived.Deep.RegionHeld3
set_option linter.unusedVariables false
set_option linter.unusedSimpArgs false
namespace Go.Proofs.Ytkjjkmipgpoijaa
open Go.RowKit Go.Maps Go.Proofs.YtkjjkmipgpoijaaW.PrintWords Mem

abbrev Str := List UInt8
def kl (s : Str) : Lit := .string s
def ix : List Str → Str → Nat
  | [], _ => 0
  | t :: r, s => if t = s then 0 else ix r s + 1
def at_ (T : List Str) (s : Str) : Int := if s ∈ T then (ix T s : Int) else 0
def isIn (T : List Str) (s : Str) : Bool := decide (s ∈ T)
theorem isIn_iff (T : List Str) (s : Str) : isIn T s = true ↔ s ∈ T := by simp [isIn]
def lit0 (n : Int) : DataW Unit := .lit (.int .i64 n)
theorem law9 : Keyed Try.prog 9 := string_keyed Try.underlying9
theorem zero3 (w : World) : (zeroValue 3).run Try.prog w = .ok (.int .i64 0) w := by kernel_rfl
theorem kl_inj {s t : Str} (h : kl s = kl t) : s = t := by
  unfold kl at h
  injection h with h
theorem kl_key (s : Str) : WideAt.IsKeyLit (kl s) := by
  unfold kl WideAt.IsKeyLit
  simp

/-- Block b is a map that tells of each string its place in T. -/
def MapT (w : World) (b : Nat) (T : List Str) : Prop :=
  ∃ D : DataW Unit, w.ownsMap Try.prog 9 (plainElem Try.prog 3) b T.length D ∧ (∀ s, Maps.has D (kl s) = isIn T s) ∧ ∀ s, s ∈ T → D.atKey (kl s) (lit0 0) = lit0 (ix T s)

theorem MapT.look {w : World} {b : Nat} {T : List Str} (h : MapT w b T) {s : ByteArray} (hs : s.size ≤ maxLen) :
    (Instr.lookup 46 (.map (some b)) (.string s) true).run Try.prog w = .ok (.tuple #[.int .i64 (at_ T s.data.toList), .bool (isIn T s.data.toList)]) w := by
  obtain ⟨D, ho, hh, ha⟩ := h
  obtain ⟨v, ps, hr, hv⟩ := ho.look_ok law9 Try.underlying46 (zero3 _) (plainElem_int Try.underlying3 (by decide)) (WideMaps.keyOf_string_mk Try.underlying9 hs)
  rw [show (Lit.string s.data.toList) = kl s.data.toList from rfl] at hr hv
  rw [hh] at hr
  have e : v = .int .i64 (at_ T s.data.toList) := by
    unfold at_
    obtain ⟨a, rfl, hz, _⟩ := plainElem_int_inv Try.underlying3 hv
    by_cases hm : s.data.toList ∈ T
    · rw [if_pos hm]
      have := ha _ hm
      rw [show (lit0 0) = .lit (.int .i64 0) from rfl] at this
      rw [this] at hz
      simp [lit0] at hz
      rw [hz.1]
    · rw [if_neg hm]
      have := atKey_of_not_has (D := D) (k := kl s.data.toList) (by rw [hh]; simp [isIn, hm]) (.lit (.int .i64 0))
      rw [this] at hz
      simp at hz
      rw [← hz.1]
  rw [e] at hr
  exact hr

def kz (l : List Int) : Str := (strOfNums l).data.toList

/-- The table at block p: limit, keys. Its blocks satisfy ok. -/
structure Tbl (w : World) (ok : Nat → Prop) (p : Nat) (lim : Int) (ks : List (List Int)) : Prop where
  ex : ∃ bm vk, w.heap[p]? = some (.cells #[.int .i64 lim, .map (some bm), vk] 48 (0, 0)) ∧ ok p ∧ ok bm ∧ MapT w bm (ks.map kz) ∧
    Kd.R (Kd.slice 5 (Kd.int .u8)) 22 w 0 (fun k => ok k ∧ k ≠ p ∧ k ≠ bm) vk ks

theorem made_ok (p bm : Nat) (w : World) (c1 : w.cell? ⟨p, 1, none⟩ = some (.map (some bm))) :
    Calls Try.prog 21 #[.pointer (some ⟨p, 0, none⟩)] w fun e w' => e = .returned (.bool true) ∧ w = w' := by
  have hne := fun w => run_neq_map_nil (P := Try.prog) w 46 9 3 (some bm) Try.underlying46
  go_enter Try.func21, Try.ntmps21
  go_wp2
  go_ret
  exact ⟨rfl, rfl⟩

theorem made_nil (w : World) : Calls Try.prog 21 #[.pointer none] w fun e w' => e = .returned (.bool false) ∧ w = w' := by
  go_enter Try.func21, Try.ntmps21
  go_wp2
  go_ret
  exact ⟨rfl, rfl⟩
theorem made_zero (p : Nat) (w : World) (c1 : w.cell? ⟨p, 1, none⟩ = some (.map none)) :
    Calls Try.prog 21 #[.pointer (some ⟨p, 0, none⟩)] w fun e w' => e = .returned (.bool false) ∧ w = w' := by
  have hne := fun w => run_neq_map_nil (P := Try.prog) w 46 9 3 none Try.underlying46
  go_enter Try.func21, Try.ntmps21
  go_wp2
  go_ret
  exact ⟨rfl, rfl⟩

theorem len_ok (p bm n c : Nat) (A : Option Addr) (w : World) (c1 : w.cell? ⟨p, 1, none⟩ = some (.map (some bm))) (c2 : w.cell? ⟨p, 2, none⟩ = some (.slice A n c)) :
    Calls Try.prog 13 #[.pointer (some ⟨p, 0, none⟩)] w fun e w' => e = .returned (.int .i64 n) ∧ w = w' := by
  go_enter Try.func13, Try.ntmps13
  go_wp2_with (go_at_call 21; refine (made_ok p bm _ c1).mono ?_; rintro e w' ⟨rfl, rfl⟩)
  go_ret
  exact ⟨rfl, rfl⟩
theorem len_nil (w : World) : Calls Try.prog 13 #[.pointer none] w fun e w' => e = .returned (.int .i64 0) ∧ w = w' := by
  go_enter Try.func13, Try.ntmps13
  go_wp2_with (go_at_call 21; refine (made_nil _).mono ?_; rintro e w' ⟨rfl, rfl⟩)
  go_ret
  exact ⟨rfl, rfl⟩
theorem len_zero (p : Nat) (w : World) (c1 : w.cell? ⟨p, 1, none⟩ = some (.map none)) : Calls Try.prog 13 #[.pointer (some ⟨p, 0, none⟩)] w fun e w' => e = .returned (.int .i64 0) ∧ w = w' := by
  go_enter Try.func13, Try.ntmps13
  go_wp2_with (go_at_call 21; refine (made_zero p _ c1).mono ?_; rintro e w' ⟨rfl, rfl⟩)
  go_ret
  exact ⟨rfl, rfl⟩

theorem find_nil (w : World) (v : Value) : Calls Try.prog 17 #[.pointer none, v] w fun e w' => e = .returned (.tuple #[.int .i64 0, .bool false]) ∧ w = w' := by
  go_enter Try.func17, Try.ntmps17
  go_wp2_with (go_at_call 21; refine (made_nil _).mono ?_; rintro e w' ⟨rfl, rfl⟩)
  go_ret2
  exact ⟨rfl, rfl⟩
theorem find_zero (p : Nat) (w : World) (v : Value) (c1 : w.cell? ⟨p, 1, none⟩ = some (.map none)) : Calls Try.prog 17 #[.pointer (some ⟨p, 0, none⟩), v] w fun e w' => e = .returned (.tuple #[.int .i64 0, .bool false]) ∧ w = w' := by
  go_enter Try.func17, Try.ntmps17
  go_wp2_with (go_at_call 21; refine (made_zero p _ c1).mono ?_; rintro e w' ⟨rfl, rfl⟩)
  go_ret2
  exact ⟨rfl, rfl⟩
theorem MapT.drewN {w : World} {b : Nat} {T : List Str} (h : MapT w b T) (n : Nat) : MapT (w.drewN n) b T := h
set_option maxHeartbeats 400000 in
theorem find_ok (p bm n c : Nat) (A : Option Addr) (l : List Int) (T : List Str) (w : World) (c1 : w.cell? ⟨p, 1, none⟩ = some (.map (some bm))) (hm : MapT w bm T) (hk : Kd.C (Kd.int .u8) w A n l) (hn : (strOfNums l).size ≤ maxLen) :
    Calls Try.prog 17 #[.pointer (some ⟨p, 0, none⟩), .slice A n c] w fun e w' => e = .returned (.tuple #[.int .i64 (at_ T (kz l)), .bool (isIn T (kz l))]) ∧ ∃ q, w' = w.drewN q := by
  have h1 := fun (q : Nat) => Kd.C_string (P := Try.prog) (w := w.drewN q) (src := 22) (dst := 9) (c := c) Try.underlying22 Try.underlying5 Try.underlying9 (Kd.C_drewN hk q)
  have h2 := fun (q : Nat) => (hm.drewN q).look hn
  have hk' := Aside0.mk hk; have hm' := Aside0.mk hm; clear hk hm
  go_enter Try.func17, Try.ntmps17
  go_wp2_with (go_at_call 21; refine (made_ok p bm _ c1).mono ?_; rintro e w' ⟨rfl, rfl⟩)
  go_quiet (fail)
  go_wp2
  go_ret2
  exact ⟨rfl, _, rfl⟩

end Go.Proofs.Ytkjjkmipgpoijaa
