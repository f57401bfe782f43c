/- One contract a method, for every state of the table and of the reference's. -/
import Derived.Test.YtkjjkmipgpoijaaTabG
set_option linter.unusedVariables false
set_option linter.unusedSimpArgs false
namespace Go.Proofs.Ytkjjkmipgpoijaa
open Go.RowKit Go.Maps Go.Proofs.YtkjjkmipgpoijaaW.PrintWords Mem

abbrev Ks := List (List Int)
def addK (lim : Int) (ks : Ks) (l : List Int) : Ks := if kz l ∈ ks.map kz then ks else if lim ≤ ks.length then ks else ks ++ [l]
def addI (lim : Int) (ks : Ks) (l : List Int) : Int := if kz l ∈ ks.map kz then at_ (ks.map kz) (kz l) else if lim ≤ ks.length then 0 else ks.length
def addB (lim : Int) (ks : Ks) (l : List Int) : Bool := if kz l ∈ ks.map kz then false else if lim ≤ ks.length then false else true
def addE (lim : Int) (ks : Ks) (l : List Int) : Int := if kz l ∈ ks.map kz then 0 else if lim ≤ ks.length then 13 else 0

theorem add_any (p : Nat) (ok : Nat → Prop) (lim : Int) (ks : Ks) (n c : Nat) (A : Option Addr) (l : List Int) (w : World) (ht : Tbl w ok p lim ks) (hk : ∀ W, Kept w W ok → Kd.C (Kd.int .u8) W A n l)
    (hn : (strOfNums l).size ≤ maxLen) (hl2 : lim ≤ 65536) (hnl : n ≤ 140737488355328) :
    Calls Try.prog 15 #[.pointer (some ⟨p, 0, none⟩), .slice A n c] w fun e w' => e = .returned (.tuple #[.int .i64 (addI lim ks l), .bool (addB lim ks l), .int .i64 (addE lim ks l)]) ∧ Tbl w' (fun k => ok k ∨ w.heap.size ≤ k) p lim (addK lim ks l) ∧ Kp ok w w' := by
  unfold addI addB addE addK
  by_cases h1 : kz l ∈ ks.map kz
  · simp only [if_pos h1]
    refine (add_old p ok lim ks n c A l w ht (hk w (Kept.refl _ _)) hn h1).mono ?_
    rintro e w' ⟨rfl, q, rfl⟩
    exact ⟨rfl, (ht.drewN q).mono (fun k hk => .inl hk), (Kp.refl ok w).drewN q⟩
  · simp only [if_neg h1]
    by_cases h2 : lim ≤ ks.length
    · simp only [if_pos h2]
      refine (add_full p ok lim ks n c A l w ht (hk w (Kept.refl _ _)) hn h1 h2).mono ?_
      rintro e w' ⟨rfl, q, rfl⟩
      exact ⟨rfl, (ht.drewN q).mono (fun k hk => .inl hk), (Kp.refl ok w).drewN q⟩
    · simp only [if_neg h2]
      exact add_new p ok lim ks n c A l w ht hk hn h1 (by omega) hl2 hnl
theorem RTb.drewN {w : World} {ok : Nat → Prop} {p : Nat} {lim : Int} {ks : Ks} (h : RTb w ok p lim ks) (q : Nat) : RTb (w.drewN q) ok p lim ks := h.step (fun k _ hk => rfl)
theorem radd_any (p : Nat) (ok : Nat → Prop) (lim : Int) (ks : Ks) (n c : Nat) (A : Option Addr) (l : List Int) (w : World) (ht : RTb w ok p lim ks) (hk : Kd.C (Kd.int .u8) w A n l) (hm : ks.length ≤ 65536) :
    Calls Try.prog 16 #[.pointer (some ⟨p, 0, none⟩), .slice A n c] w fun e w' => e = .returned (.tuple #[.int .i64 (addI lim ks l), .bool (addB lim ks l), .int .i64 (addE lim ks l)]) ∧ RTb w' (fun k => ok k ∨ w.heap.size ≤ k) p lim (addK lim ks l) ∧ Kp ok w w' := by
  unfold addI addB addE addK
  by_cases h1 : kz l ∈ ks.map kz
  · simp only [if_pos h1]
    refine (radd_old p ok lim ks n c A l w ht hk hm h1).mono ?_
    rintro e w' ⟨rfl, q, rfl⟩
    exact ⟨rfl, (ht.drewN q).mono (fun k hk => .inl hk), (Kp.refl ok w).drewN q⟩
  · simp only [if_neg h1]
    by_cases h2 : lim ≤ ks.length
    · simp only [if_pos h2]
      refine (radd_full p ok lim ks n c A l w ht hk hm h1 h2).mono ?_
      rintro e w' ⟨rfl, q, rfl⟩
      exact ⟨rfl, (ht.drewN q).mono (fun k hk => .inl hk), (Kp.refl ok w).drewN q⟩
    · simp only [if_neg h2]
      exact radd_new p ok lim ks n c A l w ht hk hm h1 (by omega)
theorem find_any (p : Nat) (ok : Nat → Prop) (lim : Int) (ks : Ks) (n c : Nat) (A : Option Addr) (l : List Int) (w : World) (ht : Tbl w ok p lim ks) (hk : Kd.C (Kd.int .u8) w A n l) (hn : (strOfNums l).size ≤ maxLen) :
    Calls Try.prog 17 #[.pointer (some ⟨p, 0, none⟩), .slice A n c] w fun e w' => e = .returned (.tuple #[.int .i64 (at_ (ks.map kz) (kz l)), .bool (isIn (ks.map kz) (kz l))]) ∧ ∃ q, w' = w.drewN q := by
  obtain ⟨bm, vk, hp, okp, okb, hM, hR⟩ := ht.ex
  exact find_ok p bm n c A l _ w (cell_at hp rfl) hM hk hn

def keyf (ks : Ks) (i : Int) : List Int := if 0 ≤ i ∧ i < ks.length then ks.getD i.toNat [] else []
theorem key_any (p : Nat) (ok : Nat → Prop) (lim : Int) (ks : Ks) (i : Int) (w : World) (ht : Tbl w ok p lim ks) (hb : ∀ l ∈ ks, l.length ≤ 200) (hm : ks.length ≤ 65536) :
    Calls Try.prog 19 #[.pointer (some ⟨p, 0, none⟩), .int .i64 i] w fun e w' => ∃ v, e = .returned v ∧ Kd.R (Kd.int .u8) 5 w' 0 (fun k => w.heap.size ≤ k) v (keyf ks i) ∧ Kp (fun _ => False) w w' := by
  unfold keyf
  by_cases h : 0 ≤ i ∧ i < ks.length
  · rw [if_pos h]
    obtain ⟨j, rfl⟩ := Int.eq_ofNat_of_zero_le h.1
    have hj : j < ks.length := by omega
    refine key_in p ok lim ks j w ht hj ?_ hm
    rw [List.getD_eq_getElem?_getD, List.getElem?_eq_getElem hj]
    have := hb ks[j] (List.getElem_mem hj)
    show ks[j].length ≤ _
    omega
  · rw [if_neg h]
    refine (key_out p ok lim ks i w ht (by omega)).mono ?_
    rintro e w' ⟨rfl, rfl⟩
    exact ⟨_, rfl, Kd.R_nil _ _ _ _ _, Kp.refl _ _⟩
theorem str_size (l : List Int) : (strOfNums l).size = l.length := by simp [strOfNums, ByteArray.size]
theorem rkey_any (p : Nat) (ok : Nat → Prop) (lim : Int) (ks : Ks) (i : Int) (w : World) (ht : RTb w ok p lim ks) (hb : ∀ l ∈ ks, l.length ≤ 200) (hm : ks.length ≤ 65536) :
    Calls Try.prog 20 #[.pointer (some ⟨p, 0, none⟩), .int .i64 i] w fun e w' => ∃ A n c, e = .returned (.slice A n c) ∧ n = (keyf ks i).length ∧ Kd.C (Kd.int .u8) w' A n (bytesOf (strOfNums (keyf ks i))) ∧ Kp (fun _ => False) w w' := by
  unfold keyf
  by_cases h : 0 ≤ i ∧ i < ks.length
  · rw [if_pos h]
    obtain ⟨j, rfl⟩ := Int.eq_ofNat_of_zero_le h.1
    have hj : j < ks.length := by omega
    refine (rkey_in p ok lim ks j w ht hj ?_ hm).mono ?_
    · rw [str_size, List.getD_eq_getElem?_getD, List.getElem?_eq_getElem hj]
      have := hb ks[j] (List.getElem_mem hj)
      show ks[j].length ≤ _
      omega
    · rintro e w' ⟨g, n, c, rfl, rfl, hC, hK⟩
      exact ⟨_, _, _, rfl, str_size _, hC, hK⟩
  · rw [if_neg h]
    refine (rkey_out p ok lim ks i w ht (by omega)).mono ?_
    rintro e w' ⟨rfl, rfl⟩
    exact ⟨_, _, _, rfl, rfl, Kd.C_nil _ _, Kp.refl _ _⟩
theorem str_back (l : List Int) : strOfNums (bytesOf (strOfNums l)) = strOfNums l := by
  unfold strOfNums bytesOf
  simp
  intro a _
  apply UInt8.toNat_inj.1
  have : (max a 0 % 256).toNat = a.toNat % 256 := by omega
  rw [this]
  simp
theorem len_back (l : List Int) : (bytesOf (strOfNums l)).length = l.length := by rw [bytesOf_length, str_size]
end Go.Proofs.Ytkjjkmipgpoijaa
