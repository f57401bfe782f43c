/- The chapter's examples: awake answers true in whatever world, and turns nothing that was there. -/
import Derived.Test.YtkjjkmipgpoijaaTabF
import Derived.Test.YtkjjkmipgpoijaaPInternHashx1
set_option linter.unusedVariables false
set_option linter.unusedSimpArgs false
namespace Go.Proofs.Ytkjjkmipgpoijaa
open Go.RowKit Go.Maps Go.Proofs.YtkjjkmipgpoijaaW.PrintWords Mem

theorem C_one (w : World) (x : Int) (fr : Nat × Nat) : Kd.C (Kd.int .u8) (w.alloc (.cells #[.int .u8 x] 5 fr)) (some ⟨w.heap.size, 0, none⟩) 1 [x] := by
  refine ⟨rfl, by omega, fun _ => ⟨_, rfl, fun j p hj => ?_⟩⟩
  match j, hj with
  | 0, hj =>
    obtain rfl : x = p := by simpa using hj
    refine ⟨[.int .u8 x], rfl, rfl, fun i u hu => ?_⟩
    match i, hu with
    | 0, hu =>
      obtain rfl : Value.int .u8 x = u := by simpa using hu
      show (w.alloc _).cell? (Addr.add ⟨w.heap.size, 0, none⟩ 0) = _
      rw [add_plain]
      rw [World.cell?, heap_alloc_new w (.cells #[.int .u8 x] 5 fr)]
      rfl
theorem C_blk {w W : World} {g n : Nat} {k : IntKind} {l : List Int} (h : Kd.C (Kd.int k) w (some ⟨g, 0, none⟩) n l) (hb : W.heap[g]? = w.heap[g]?) : Kd.C (Kd.int k) W (some ⟨g, 0, none⟩) n l := by
  refine ⟨h.1, h.2.1, fun hn => ?_⟩
  obtain ⟨ad, e, hc⟩ := h.2.2 hn
  refine ⟨ad, e, fun j p hj => ?_⟩
  obtain ⟨c, h1, h2, h3⟩ := hc j p hj
  refine ⟨c, h1, h2, fun i u hu => ?_⟩
  rw [← h3 i u hu]
  injection e with e
  subst e
  rw [add_plain]
  simp [World.cell?, hb]
theorem Tbl.alloc {w : World} {ok : Nat → Prop} {p : Nat} {lim : Int} {ks : List (List Int)} (h : Tbl w ok p lim ks) (o : Obj) : Tbl (w.alloc o) ok p lim ks := h.step (fun k _ hk => Below.heap_alloc w o k hk)

/-- Add of a constant of one byte to a table: the world in which the call is made is that of the table with the constant's block. -/
theorem add_const (p : Nat) (ok : Nat → Prop) (lim : Int) (ks : List (List Int)) (x : Int) (fr : Nat × Nat) (w : World) (ht : Tbl w ok p lim ks) (hin : kz [x] ∉ ks.map kz) (hl : ks.length < lim) (hl2 : lim ≤ 65536) :
    Calls Try.prog 15 #[.pointer (some ⟨p, 0, none⟩), .slice (some ⟨w.heap.size, 0, none⟩) 1 1] (w.alloc (.cells #[.int .u8 x] 5 fr)) fun e w' => e = .returned (.tuple #[.int .i64 ks.length, .bool true, .int .i64 0]) ∧
      Tbl w' (fun k => ok k ∨ w.heap.size ≤ k) p lim (ks ++ [[x]]) ∧ Kp ok w w' := by
  have h1 := add_new p (fun k => ok k ∧ k < w.heap.size) lim ks 1 1 (some ⟨w.heap.size, 0, none⟩) [x] (w.alloc (.cells #[.int .u8 x] 5 fr)) (ht.bound.alloc _)
    (fun W hK => C_blk (C_one w x fr) (hK.2 _ (by simp) (fun h => by omega))) (by simp [strOfNums, ByteArray.size, maxLen]) hin hl hl2 (by omega)
  refine h1.mono ?_
  rintro e w' ⟨rfl, hT, hK⟩
  refine ⟨rfl, hT.mono (fun k hk => ?_), ((Kp.refl ok w).alloc _).then_ hK (fun k hk => .inl hk.1)⟩
  rcases hk with hk | hk
  · exact .inl hk.1
  · simp at hk
    exact .inr (by omega)

theorem Tbl.drewN {w : World} {ok : Nat → Prop} {p : Nat} {lim : Int} {ks : List (List Int)} (h : Tbl w ok p lim ks) (q : Nat) : Tbl (w.drewN q) ok p lim ks := h.step (fun k _ hk => rfl)
theorem add_const_old (p : Nat) (ok : Nat → Prop) (lim : Int) (ks : List (List Int)) (x a : Int) (fr : Nat × Nat) (w : World) (ht : Tbl w ok p lim ks) (hin : kz [x] ∈ ks.map kz) (ha : at_ (ks.map kz) (kz [x]) = a) :
    Calls Try.prog 15 #[.pointer (some ⟨p, 0, none⟩), .slice (some ⟨w.heap.size, 0, none⟩) 1 1] (w.alloc (.cells #[.int .u8 x] 5 fr)) fun e w' => e = .returned (.tuple #[.int .i64 a, .bool false, .int .i64 0]) ∧ Tbl w' ok p lim ks ∧ Kp ok w w' := by
  refine (add_old p ok lim ks 1 1 _ [x] _ (ht.alloc _) (C_one w x fr) (by simp [strOfNums, ByteArray.size, maxLen]) hin).mono ?_
  rintro e w' ⟨rfl, q, rfl⟩
  exact ⟨by rw [ha], (ht.alloc _).drewN q, ((Kp.refl ok w).alloc _).drewN q⟩
theorem add_const_full (p : Nat) (ok : Nat → Prop) (lim : Int) (ks : List (List Int)) (x : Int) (fr : Nat × Nat) (w : World) (ht : Tbl w ok p lim ks) (hin : kz [x] ∉ ks.map kz) (hl : lim ≤ ks.length) :
    Calls Try.prog 15 #[.pointer (some ⟨p, 0, none⟩), .slice (some ⟨w.heap.size, 0, none⟩) 1 1] (w.alloc (.cells #[.int .u8 x] 5 fr)) fun e w' => e = .returned (.tuple #[.int .i64 0, .bool false, .int .i64 13]) ∧ Tbl w' ok p lim ks ∧ Kp ok w w' := by
  refine (add_full p ok lim ks 1 1 _ [x] _ (ht.alloc _) (C_one w x fr) (by simp [strOfNums, ByteArray.size, maxLen]) hin hl).mono ?_
  rintro e w' ⟨rfl, q, rfl⟩
  exact ⟨rfl, (ht.alloc _).drewN q, ((Kp.refl ok w).alloc _).drewN q⟩
theorem len_tbl (p : Nat) (ok : Nat → Prop) (lim : Int) (ks : List (List Int)) (w : World) (ht : Tbl w ok p lim ks) :
    Calls Try.prog 13 #[.pointer (some ⟨p, 0, none⟩)] w fun e w' => e = .returned (.int .i64 ks.length) ∧ w = w' := by
  obtain ⟨bm, vk, hp, okp, okb, hM, hR⟩ := ht.ex
  obtain ⟨B, cc, rfl, _, _⟩ := Kd.R_reads hR
  exact len_ok p bm _ _ _ _ (cell_at hp rfl) (cell_at hp rfl)

set_option maxRecDepth 100000 in
set_option maxHeartbeats 2000000 in
theorem awake_any (w : World) : Calls Try.prog 7 #[] w fun e w' => e = .returned (.bool true) ∧ Below w.heap.size w w' := by
  have kc := fun (w : World) (C : Array Value) (n c : Nat) => Lib.run_convert_bytes_const (P := Try.prog) w 22 5 C n c Try.underlying22 Try.underlying5
  go_enter Try.func7, Try.ntmps7
  go_wp2_with fail
  refine (new_any 2 _).mono ?_
  rintro e w1 ⟨p, rfl, T1, K1⟩
  rw [show clip 2 = 2 from rfl] at T1
  have H1 := Aside0.mk (And.intro T1 K1)
  clear T1 K1
  go_wp2_with fail
  refine (add_const p _ 2 [] 97 _ w1 H1.out.1 (by decide) (by decide) (by decide)).mono ?_
  rintro e w2 ⟨rfl, T2, K2⟩
  have H2 := Aside0.mk (And.intro T2 K2)
  clear T2 K2
  go_wp2_with fail
  refine (add_const p _ 2 [[97]] 98 _ w2 H2.out.1 (by decide) (by decide) (by decide)).mono ?_
  rintro e w3 ⟨rfl, T3, K3⟩
  have H3 := Aside0.mk (And.intro T3 K3)
  clear T3 K3
  go_wp2_with fail
  refine (add_const_old p _ 2 [[97], [98]] 97 0 _ w3 H3.out.1 (by decide) (by decide)).mono ?_
  rintro e w4 ⟨rfl, T4, K4⟩
  have H4 := Aside0.mk (And.intro T4 K4)
  clear T4 K4
  go_wp2_with fail
  refine (add_const_full p _ 2 [[97], [98]] 99 _ w4 H4.out.1 (by decide) (by decide)).mono ?_
  rintro e w5 ⟨rfl, T5, K5⟩
  have H5 := Aside0.mk (And.intro T5 K5)
  clear T5 K5
  go_wp2_with fail
  refine (len_tbl p _ 2 [[97], [98]] w5 H5.out.1).mono ?_
  rintro e w6 ⟨rfl, rfl⟩
  go_wp2_with fail
  refine (PInternHash.intern_Hash.calls 2 _ 1 [97] 12638187200555641996 _ (C_one w5 97 _) (by decide) (by decide +kernel)).mono ?_
  rintro e w7 ⟨rfl, ⟨q, rfl⟩⟩
  go_wp2
  go_ret
  refine ⟨rfl, ?_⟩
  have k1 := H1.out.2
  have k2 : Kp (fun k => w.heap.size ≤ k) w w2 := (k1.mono (fun k hk => hk.elim)).then_ H2.out.2 (fun k hk => .inr hk)
  have k3 : Kp (fun k => w.heap.size ≤ k) w w3 := k2.then_ H3.out.2 (fun k hk => .inr (by have := k1.size; omega))
  have k4 : Kp (fun k => w.heap.size ≤ k) w w4 := k3.then_ H4.out.2 (fun k hk => .inr (by have := k1.size; have := k2.size; omega))
  have k5 : Kp (fun k => w.heap.size ≤ k) w w5 := k4.then_ H5.out.2 (fun k hk => .inr (by have := k1.size; have := k2.size; omega))
  exact ((k5.alloc _).drewN q).below (fun k hk => hk)

end Go.Proofs.Ytkjjkmipgpoijaa
