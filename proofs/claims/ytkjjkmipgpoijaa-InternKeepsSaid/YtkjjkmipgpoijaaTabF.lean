/- The reference's table: Key. -/
import Derived.Test.YtkjjkmipgpoijaaTabE
import Derived.Lib.SlBytesConst
set_option linter.unusedVariables false
set_option linter.unusedSimpArgs false
namespace Go.Proofs.Ytkjjkmipgpoijaa
open Go.RowKit Go.Maps Go.Proofs.YtkjjkmipgpoijaaW.PrintWords Mem

theorem C_int_of_reads {w : World} {k : IntKind} {A : Option Addr} {n : Nat} {xs : List Int} (h : ReadsInt w k A n xs) : Kd.C (Kd.int k) w A n xs :=
  Kd.C_of_reads (enc := Value.int k) (d := (0 : Int)) (h1 := fun _ => rfl) h

set_option maxHeartbeats 400000 in
theorem rkey_in (p : Nat) (ok : Nat → Prop) (lim : Int) (ks : List (List Int)) (i : Nat) (w : World) (ht : RTb w ok p lim ks) (hi : i < ks.length) (hb : (strOfNums (ks.getD i [])).size ≤ 9223372036854775807) (hm : ks.length ≤ 65536) :
    Calls Try.prog 20 #[.pointer (some ⟨p, 0, none⟩), .int .i64 i] w fun e w' => ∃ g n c, e = .returned (.slice (some ⟨g, 0, none⟩) n c) ∧ n = (strOfNums (ks.getD i [])).size ∧ Kd.C (Kd.int .u8) w' (some ⟨g, 0, none⟩) n (bytesOf (strOfNums (ks.getD i []))) ∧ Kp (fun _ => False) w w' := by
  obtain ⟨vk, hp, okp, hR⟩ := ht.ex
  rcases str_at hR with ⟨rfl, e2⟩ | ⟨g, cc, rfl, okg, hcell⟩
  · have e3 := congrArg List.length e2
    rw [List.length_map] at e3
    simp at e3
    subst e3
    simp at hi
  have c1 : w.cell? ⟨p, 1, none⟩ = some (.slice (some ⟨g, 0, none⟩) ks.length cc) := by
    rw [List.length_map] at hp
    exact cell_at hp rfl
  have hc := hcell i (by simpa using hi)
  obtain ⟨s, hs⟩ : ∃ s, s = strOfNums (ks.getD i []) := ⟨_, rfl⟩
  have e5 : (ks.map strOfNums).getD i ByteArray.empty = s := by
    rw [hs, List.getD_eq_getElem?_getD, List.getElem?_map, List.getD_eq_getElem?_getD, List.getElem?_eq_getElem hi]
    rfl
  rw [e5] at hc
  rw [← hs] at hb ⊢
  clear hs e5 hcell hp hR ht
  have kb := fun W => print_bytes (P := Try.prog) 9 22 5 Try.underlying9 Try.underlying22 Try.underlying5 s W
  have h0 : ¬ ((i : Int) < 0) := by omega
  have h1 : ¬ ((ks.length : Int) ≤ i) := by omega
  go_enter Try.func20, Try.ntmps20
  go_wp2
  go_ret
  exact ⟨_, _, ⟨_, rfl⟩, rfl, C_int_of_reads (bytes_reads w 5 s hb), Kp.of_below (bytes_below (Below.refl _ _) (Nat.le_refl _) 5 s) _⟩

theorem rkey_out (p : Nat) (ok : Nat → Prop) (lim : Int) (ks : List (List Int)) (i : Int) (w : World) (ht : RTb w ok p lim ks) (hi : i < 0 ∨ (ks.length : Int) ≤ i) :
    Calls Try.prog 20 #[.pointer (some ⟨p, 0, none⟩), .int .i64 i] w fun e w' => e = .returned (.slice none 0 0) ∧ w = w' := by
  obtain ⟨vk, hp, okp, hR⟩ := ht.ex
  obtain ⟨B, cc, rfl, _, _⟩ := Kd.R_reads hR
  have c1 : w.cell? ⟨p, 1, none⟩ = some (.slice B ks.length cc) := by
    rw [List.length_map] at hp
    exact cell_at hp rfl
  clear hR hp ht
  by_cases h0 : i < 0
  · go_enter Try.func20, Try.ntmps20
    go_wp2
    go_ret
    exact ⟨rfl, rfl⟩
  · have h1 : (ks.length : Int) ≤ i := by omega
    go_enter Try.func20, Try.ntmps20
    go_wp2
    go_ret
    exact ⟨rfl, rfl⟩

end Go.Proofs.Ytkjjkmipgpoijaa
