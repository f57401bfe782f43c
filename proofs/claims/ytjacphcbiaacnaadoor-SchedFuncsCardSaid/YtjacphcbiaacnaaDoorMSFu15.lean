import Derived.StillTail
import Derived.Deep.RegionHeld3
import Derived.Test.YtjacphcbiaacnaaDoorMSFu14
section
set_option linter.unusedVariables false
set_option linter.unusedSimpArgs false
namespace Go.Proofs.YtjacphcbiaacnaaDoor
open Go.RowKit Go.Proofs.YtjacphcbiaacnaaDoorW.PrintWords Go.Proofs.YtjacphcbiaacnaaDoorW.PrintMore Go.Proofs.YtjacphcbiaacnaaDoor.PDigraphTells
structure S24 where
 f0 : Int
 f1 : Int
 f2 : (List Int)
def k24 : Kd S24 := Kd.iso (Kd.pair (Kd.int .i64) (Kd.pair (Kd.int .i64) (Kd.slice 3 (Kd.int .i64)))) (fun x : S24 => (x.f0, x.f1, x.f2))
theorem op24_open {w : World} {x : S24} {cs : List Value} (h : k24.K w x cs) : ∃ A_2 c_2, cs = [(.int .i64 x.f0), (.int .i64 x.f1), (.slice A_2 x.f2.length c_2)] ∧ x.f2.length ≤ c_2 ∧ Kd.C (Kd.int .i64) w A_2 x.f2.length x.f2 := by
 obtain ⟨_, _, rfl, rfl, ⟨_, _, rfl, rfl, ⟨A_2, c_2, rfl, l_2, g_2⟩⟩⟩ := h
 exact ⟨A_2, c_2, rfl, l_2, g_2⟩
def good24 (x : S24) : Prop := (Lit.int .i64 x.f0).wf = true ∧ (Lit.int .i64 x.f1).wf = true ∧ (x.f2.length * Tryd.prog.bytesOf 3 ≤ 140737488351232 ∧ ∀ y ∈ x.f2, (Lit.int .i64 y).wf = true)
def fld24_0 : Field := { name := "IssueWidth", type := 3, offset := 0, embedded := false, tag := "", pkgPath := "", byteOffset := 0 }
def fld24_1 : Field := { name := "NumRegs", type := 3, offset := 1, embedded := false, tag := "", pkgPath := "", byteOffset := 8 }
def fld24_2 : Field := { name := "Latency", type := 22, offset := 2, embedded := false, tag := "", pkgPath := "", byteOffset := 16 }
theorem op24 {H : Type} {enc : TypeId × Value → H} {W : World} : Opens.Op enc Tryd.prog W 24 k24 good24 :=
 (Opens.Op.struct (Opens.Fs.cons (f := fld24_0) (Opens.Op.int Tryd.underlying3) (Opens.Fs.cons (f := fld24_1) (Opens.Op.int Tryd.underlying3) (Opens.Fs.one (f := fld24_2) (Opens.Op.slice (Opens.Op.int Tryd.underlying3) Tryd.underlying22 (by kernel_rfl) rfl) (by kernel_rfl)) (by kernel_rfl) rfl) (by kernel_rfl) rfl) Tryd.underlying24 rfl (by kernel_rfl) (fun x : S24 => (x.f0, x.f1, x.f2)) (fun z => ⟨z.1, z.2.1, z.2.2⟩) (fun _ => rfl)).imp (fun (x : S24) h => h)
def good48 (x : S48) : Prop := (Lit.int .i64 x.f0).wf = true ∧ (Lit.int .i64 x.f1).wf = true ∧ (Lit.int .i64 x.f2).wf = true ∧ (x.f3.length * Tryd.prog.bytesOf 3 ≤ 140737488351232 ∧ ∀ y ∈ x.f3, (Lit.int .i64 y).wf = true) ∧ (Lit.int .i64 x.f4).wf = true ∧ (Lit.int .i64 x.f5).wf = true ∧ (Lit.int .i64 x.f6).wf = true ∧ True
def fld48_0 : Field := { name := "Op", type := 3, offset := 0, embedded := false, tag := "", pkgPath := "", byteOffset := 0 }
def fld48_1 : Field := { name := "Type", type := 46, offset := 1, embedded := false, tag := "", pkgPath := "", byteOffset := 8 }
def fld48_2 : Field := { name := "Dst", type := 3, offset := 2, embedded := false, tag := "", pkgPath := "", byteOffset := 16 }
def fld48_3 : Field := { name := "Args", type := 22, offset := 3, embedded := false, tag := "", pkgPath := "", byteOffset := 24 }
def fld48_4 : Field := { name := "Imm", type := 2, offset := 4, embedded := false, tag := "", pkgPath := "", byteOffset := 48 }
def fld48_5 : Field := { name := "Sym", type := 3, offset := 5, embedded := false, tag := "", pkgPath := "", byteOffset := 56 }
def fld48_6 : Field := { name := "Elem", type := 46, offset := 6, embedded := false, tag := "", pkgPath := "", byteOffset := 64 }
def fld48_7 : Field := { name := "NoWrap", type := 4, offset := 7, embedded := false, tag := "", pkgPath := "", byteOffset := 72 }
theorem op48 {H : Type} {enc : TypeId × Value → H} {W : World} : Opens.Op enc Tryd.prog W 48 k48 good48 :=
 (Opens.Op.struct (Opens.Fs.cons (f := fld48_0) (Opens.Op.int Tryd.underlying3) (Opens.Fs.cons (f := fld48_1) (Opens.Op.int Tryd.underlying46) (Opens.Fs.cons (f := fld48_2) (Opens.Op.int Tryd.underlying3) (Opens.Fs.cons (f := fld48_3) (Opens.Op.slice (Opens.Op.int Tryd.underlying3) Tryd.underlying22 (by kernel_rfl) rfl) (Opens.Fs.cons (f := fld48_4) (Opens.Op.int Tryd.underlying2) (Opens.Fs.cons (f := fld48_5) (Opens.Op.int Tryd.underlying3) (Opens.Fs.cons (f := fld48_6) (Opens.Op.int Tryd.underlying46) (Opens.Fs.one (f := fld48_7) (Opens.Op.bool Tryd.underlying4) (by kernel_rfl)) (by kernel_rfl) rfl) (by kernel_rfl) rfl) (by kernel_rfl) rfl) (by kernel_rfl) rfl) (by kernel_rfl) rfl) (by kernel_rfl) rfl) (by kernel_rfl) rfl) Tryd.underlying48 rfl (by kernel_rfl) (fun x : S48 => (x.f0, x.f1, x.f2, x.f3, x.f4, x.f5, x.f6, x.f7)) (fun z => ⟨z.1, z.2.1, z.2.2.1, z.2.2.2.1, z.2.2.2.2.1, z.2.2.2.2.2.1, z.2.2.2.2.2.2.1, z.2.2.2.2.2.2.2⟩) (fun _ => rfl)).imp (fun (x : S48) h => h)
def good98 (x : S98) : Prop := (Lit.int .i64 x.f0).wf = true ∧ (x.f1.length * Tryd.prog.bytesOf 3 ≤ 140737488351232 ∧ ∀ y ∈ x.f1, (Lit.int .i64 y).wf = true)
def fld98_0 : Field := { name := "Block", type := 3, offset := 0, embedded := false, tag := "", pkgPath := "", byteOffset := 0 }
def fld98_1 : Field := { name := "Args", type := 22, offset := 1, embedded := false, tag := "", pkgPath := "", byteOffset := 8 }
theorem op98 {H : Type} {enc : TypeId × Value → H} {W : World} : Opens.Op enc Tryd.prog W 98 k98 good98 :=
 (Opens.Op.struct (Opens.Fs.cons (f := fld98_0) (Opens.Op.int Tryd.underlying3) (Opens.Fs.one (f := fld98_1) (Opens.Op.slice (Opens.Op.int Tryd.underlying3) Tryd.underlying22 (by kernel_rfl) rfl) (by kernel_rfl)) (by kernel_rfl) rfl) Tryd.underlying98 rfl (by kernel_rfl) (fun x : S98 => (x.f0, x.f1)) (fun z => ⟨z.1, z.2⟩) (fun _ => rfl)).imp (fun (x : S98) h => h)
def good29 (x : S29) : Prop := (Lit.int .i64 x.f0).wf = true ∧ (x.f1.length * Tryd.prog.bytesOf 3 ≤ 140737488351232 ∧ ∀ y ∈ x.f1, (Lit.int .i64 y).wf = true) ∧ (x.f2.length * Tryd.prog.bytesOf 2 ≤ 140737488351232 ∧ ∀ y ∈ x.f2, (Lit.int .i64 y).wf = true) ∧ (x.f3.length * Tryd.prog.bytesOf 98 ≤ 140737488351232 ∧ ∀ y ∈ x.f3, good98 y) ∧ (Lit.int .i64 x.f4).wf = true
def fld29_0 : Field := { name := "Kind", type := 3, offset := 0, embedded := false, tag := "", pkgPath := "", byteOffset := 0 }
def fld29_1 : Field := { name := "Args", type := 22, offset := 1, embedded := false, tag := "", pkgPath := "", byteOffset := 8 }
def fld29_2 : Field := { name := "Cases", type := 26, offset := 2, embedded := false, tag := "", pkgPath := "", byteOffset := 32 }
def fld29_3 : Field := { name := "Succs", type := 27, offset := 3, embedded := false, tag := "", pkgPath := "", byteOffset := 56 }
def fld29_4 : Field := { name := "Sym", type := 3, offset := 4, embedded := false, tag := "", pkgPath := "", byteOffset := 80 }
theorem op29 {H : Type} {enc : TypeId × Value → H} {W : World} : Opens.Op enc Tryd.prog W 29 k29 good29 :=
 (Opens.Op.struct (Opens.Fs.cons (f := fld29_0) (Opens.Op.int Tryd.underlying3) (Opens.Fs.cons (f := fld29_1) (Opens.Op.slice (Opens.Op.int Tryd.underlying3) Tryd.underlying22 (by kernel_rfl) rfl) (Opens.Fs.cons (f := fld29_2) (Opens.Op.slice (Opens.Op.int Tryd.underlying2) Tryd.underlying26 (by kernel_rfl) rfl) (Opens.Fs.cons (f := fld29_3) (Opens.Op.slice op98 Tryd.underlying27 (by kernel_rfl) rfl) (Opens.Fs.one (f := fld29_4) (Opens.Op.int Tryd.underlying3) (by kernel_rfl)) (by kernel_rfl) rfl) (by kernel_rfl) rfl) (by kernel_rfl) rfl) (by kernel_rfl) rfl) Tryd.underlying29 rfl (by kernel_rfl) (fun x : S29 => (x.f0, x.f1, x.f2, x.f3, x.f4)) (fun z => ⟨z.1, z.2.1, z.2.2.1, z.2.2.2.1, z.2.2.2.2⟩) (fun _ => rfl)).imp (fun (x : S29) h => h)
def good31 (x : S31) : Prop := (x.f0.length * Tryd.prog.bytesOf 3 ≤ 140737488351232 ∧ ∀ y ∈ x.f0, (Lit.int .i64 y).wf = true) ∧ (x.f1.length * Tryd.prog.bytesOf 48 ≤ 140737488351232 ∧ ∀ y ∈ x.f1, good48 y) ∧ good29 x.f2
def fld31_0 : Field := { name := "Params", type := 22, offset := 0, embedded := false, tag := "", pkgPath := "", byteOffset := 0 }
def fld31_1 : Field := { name := "Instrs", type := 25, offset := 1, embedded := false, tag := "", pkgPath := "", byteOffset := 24 }
def fld31_2 : Field := { name := "Term", type := 29, offset := 2, embedded := false, tag := "", pkgPath := "", byteOffset := 48 }
theorem op31 {H : Type} {enc : TypeId × Value → H} {W : World} : Opens.Op enc Tryd.prog W 31 k31 good31 :=
 (Opens.Op.struct (Opens.Fs.cons (f := fld31_0) (Opens.Op.slice (Opens.Op.int Tryd.underlying3) Tryd.underlying22 (by kernel_rfl) rfl) (Opens.Fs.cons (f := fld31_1) (Opens.Op.slice op48 Tryd.underlying25 (by kernel_rfl) rfl) (Opens.Fs.one (f := fld31_2) op29 (by kernel_rfl)) (by kernel_rfl) rfl) (by kernel_rfl) rfl) Tryd.underlying31 rfl (by kernel_rfl) (fun x : S31 => (x.f0, x.f1, x.f2)) (fun z => ⟨z.1, z.2.1, z.2.2⟩) (fun _ => rfl)).imp (fun (x : S31) h => h)
structure S55 where
 f0 : ByteArray
 f1 : (List Int)
 f2 : Int
 f3 : (List Int)
 f4 : Int
 f5 : Int
 f6 : (List S31)
def k55 : Kd S55 := Kd.iso (Kd.pair Kd.string (Kd.pair (Kd.slice 3 (Kd.int .i64)) (Kd.pair (Kd.int .i64) (Kd.pair (Kd.slice 46 (Kd.int .i64)) (Kd.pair (Kd.int .i64) (Kd.pair (Kd.int .i64) (Kd.slice 31 k31))))))) (fun x : S55 => (x.f0, x.f1, x.f2, x.f3, x.f4, x.f5, x.f6))
theorem op55_open {w : World} {x : S55} {cs : List Value} (h : k55.K w x cs) : ∃ A_1 c_1 A_3 c_3 A_6 c_6, cs = [(.string x.f0), (.slice A_1 x.f1.length c_1), (.int .i64 x.f2), (.slice A_3 x.f3.length c_3), (.int .i64 x.f4), (.int .i64 x.f5), (.slice A_6 x.f6.length c_6)] ∧ x.f1.length ≤ c_1 ∧ Kd.C (Kd.int .i64) w A_1 x.f1.length x.f1 ∧ x.f3.length ≤ c_3 ∧ Kd.C (Kd.int .i64) w A_3 x.f3.length x.f3 ∧ x.f6.length ≤ c_6 ∧ Kd.C k31 w A_6 x.f6.length x.f6 := by
 obtain ⟨_, _, rfl, rfl, ⟨_, _, rfl, ⟨A_1, c_1, rfl, l_1, g_1⟩, ⟨_, _, rfl, rfl, ⟨_, _, rfl, ⟨A_3, c_3, rfl, l_3, g_3⟩, ⟨_, _, rfl, rfl, ⟨_, _, rfl, rfl, ⟨A_6, c_6, rfl, l_6, g_6⟩⟩⟩⟩⟩⟩⟩ := h
 exact ⟨A_1, c_1, A_3, c_3, A_6, c_6, rfl, l_1, g_1, l_3, g_3, l_6, g_6⟩
def good55 (x : S55) : Prop := x.f0.size ≤ 140737488351232 ∧ (x.f1.length * Tryd.prog.bytesOf 3 ≤ 140737488351232 ∧ ∀ y ∈ x.f1, (Lit.int .i64 y).wf = true) ∧ (Lit.int .i64 x.f2).wf = true ∧ (x.f3.length * Tryd.prog.bytesOf 46 ≤ 140737488351232 ∧ ∀ y ∈ x.f3, (Lit.int .i64 y).wf = true) ∧ (Lit.int .i64 x.f4).wf = true ∧ (Lit.int .i64 x.f5).wf = true ∧ (x.f6.length * Tryd.prog.bytesOf 31 ≤ 140737488351232 ∧ ∀ y ∈ x.f6, good31 y)
def fld55_0 : Field := { name := "Name", type := 9, offset := 0, embedded := false, tag := "", pkgPath := "", byteOffset := 0 }
def fld55_1 : Field := { name := "Params", type := 22, offset := 1, embedded := false, tag := "", pkgPath := "", byteOffset := 16 }
def fld55_2 : Field := { name := "Result", type := 46, offset := 2, embedded := false, tag := "", pkgPath := "", byteOffset := 40 }
def fld55_3 : Field := { name := "Regs", type := 52, offset := 3, embedded := false, tag := "", pkgPath := "", byteOffset := 48 }
def fld55_4 : Field := { name := "NumRegs", type := 3, offset := 4, embedded := false, tag := "", pkgPath := "", byteOffset := 72 }
def fld55_5 : Field := { name := "NumSlots", type := 3, offset := 5, embedded := false, tag := "", pkgPath := "", byteOffset := 80 }
def fld55_6 : Field := { name := "Blocks", type := 53, offset := 6, embedded := false, tag := "", pkgPath := "", byteOffset := 88 }
theorem op55 {H : Type} {enc : TypeId × Value → H} {W : World} : Opens.Op enc Tryd.prog W 55 k55 good55 :=
 (Opens.Op.struct (Opens.Fs.cons (f := fld55_0) (Opens.Op.string Tryd.underlying9) (Opens.Fs.cons (f := fld55_1) (Opens.Op.slice (Opens.Op.int Tryd.underlying3) Tryd.underlying22 (by kernel_rfl) rfl) (Opens.Fs.cons (f := fld55_2) (Opens.Op.int Tryd.underlying46) (Opens.Fs.cons (f := fld55_3) (Opens.Op.slice (Opens.Op.int Tryd.underlying46) Tryd.underlying52 (by kernel_rfl) rfl) (Opens.Fs.cons (f := fld55_4) (Opens.Op.int Tryd.underlying3) (Opens.Fs.cons (f := fld55_5) (Opens.Op.int Tryd.underlying3) (Opens.Fs.one (f := fld55_6) (Opens.Op.slice op31 Tryd.underlying53 (by kernel_rfl) rfl) (by kernel_rfl)) (by kernel_rfl) rfl) (by kernel_rfl) rfl) (by kernel_rfl) rfl) (by kernel_rfl) rfl) (by kernel_rfl) rfl) (by kernel_rfl) rfl) Tryd.underlying55 rfl (by kernel_rfl) (fun x : S55 => (x.f0, x.f1, x.f2, x.f3, x.f4, x.f5, x.f6)) (fun z => ⟨z.1, z.2.1, z.2.2.1, z.2.2.2.1, z.2.2.2.2.1, z.2.2.2.2.2.1, z.2.2.2.2.2.2⟩) (fun _ => rfl)).imp (fun (x : S55) h => h)
end Go.Proofs.YtjacphcbiaacnaaDoor
end

section
set_option linter.unusedVariables false
set_option linter.unusedSimpArgs false
namespace Go.Proofs.YtjacphcbiaacnaaDoor.RowI
open Go.RowKit Go.Proofs.YtjacphcbiaacnaaDoorW.PrintWords Mem
structure RowAt {α : Type} (d : Kd α) (e : Nat) (w : World) (ok : Nat → Prop) (g n cap : Nat) (xs : List α) (i : Nat) (c : List Value) : Prop where
 rows : ∃ rows : List (List Value), rows.length = xs.length ∧ (Kd.raw d.sz).R e w 0 (fun k => some k = (Value.slice (some ⟨g, 0, none⟩) n cap).ownBlock) (.slice (some ⟨g, 0, none⟩) n cap) rows ∧ rows[i]? = some c ∧ ∀ (j : Nat) (x : α) (c' : List Value), xs[j]? = some x → rows[j]? = some c' → j ≠ i → Kd.FK d w ok x c'
section
variable {α : Type} {d : Kd α} {e : Nat} {w w1 : World} {ok ok' : Nat → Prop} {g n cap i : Nat} {xs : List α} {c : List Value} {x : α}
theorem own_iff (k : Nat) : some k = (Value.slice (some ⟨g, 0, none⟩) n cap).ownBlock ↔ k = g := by simp [Value.ownBlock]
theorem RowAt.of_N (h : Kd.N d e w 0 ok (.slice (some ⟨g, 0, none⟩) n cap) xs) (hi : i < xs.length) : ∃ c, RowAt d e w (fun k => ok k ∧ k ≠ g) g n cap xs i c ∧ Kd.FK d w (fun k => ok k ∧ k ≠ g) xs[i] c := by
 obtain ⟨hown, rows, hl, hR, hf⟩ := h
 have hil : i < rows.length := by omega
 have hf' : ∀ (j : Nat) (x : α) (c' : List Value), xs[j]? = some x → rows[j]? = some c' → Kd.FK d w (fun k => ok k ∧ k ≠ g) x c' := fun j x c' h1 h2 => Kd.FK_mono (hf j x c' h1 h2) (fun k hk => ⟨hk.1, fun h => hk.2 ((own_iff k).2 h)⟩)
 exact ⟨rows[i], ⟨rows, hl, hR, List.getElem?_eq_getElem hil, fun j x c' h1 h2 _ => hf' j x c' h1 h2⟩, hf' i _ _ (List.getElem?_eq_getElem hi) (List.getElem?_eq_getElem hil)⟩
theorem RowAt.mono (h : RowAt d e w ok g n cap xs i c) (hk : ∀ k, ok k → ok' k) : RowAt d e w ok' g n cap xs i c := by
 obtain ⟨rows, h1, h2, h3, h4⟩ := h.rows
 exact ⟨rows, h1, h2, h3, fun j x c' a b hj => Kd.FK_mono (h4 j x c' a b hj) hk⟩
theorem RowAt.bound (h : RowAt d e w ok g n cap xs i c) : RowAt d e w (fun k => ok k ∧ k < w.heap.size) g n cap xs i c := by
 obtain ⟨rows, h1, h2, h3, h4⟩ := h.rows
 exact ⟨rows, h1, h2, h3, fun j x c' a b hj => Kd.FK_bound (h4 j x c' a b hj)⟩
theorem RowAt.step (h : RowAt d e w ok g n cap xs i c) (hm : ∀ k, ok k ∨ k = g → k < w.heap.size → w1.heap[k]? = w.heap[k]?) : RowAt d e w1 ok g n cap xs i c := by
 obtain ⟨rows, h1, h2, h3, h4⟩ := h.rows
 exact ⟨rows, h1, Kd.R_step h2 (fun k hk hlt => hm k (.inr ((own_iff k).1 hk)) hlt), h3, fun j x c' a b hj => Kd.FK_step (h4 j x c' a b hj) (fun k hk hlt => hm k (.inl hk) hlt)⟩
theorem RowAt.below (h : RowAt d e w ok g n cap xs i c) (hb : Below w.heap.size w w1) : RowAt d e w1 ok g n cap xs i c := h.step (fun k _ hlt => hb.block k hlt)
theorem RowAt.far (h : RowAt d e w ok g n cap xs i c) {p : Addr} (hp : ∀ k, ok k → k ≠ p.block) (hg : g ≠ p.block) (u : Value) : RowAt d e (w.setCell p u) ok g n cap xs i c :=
 h.step (fun k hk _ => Below.heap_setCell w p u k (hk.elim (hp k) (fun e => e ▸ hg)))
theorem RowAt.lt (h : RowAt d e w ok g n cap xs i c) : g < w.heap.size := by
 obtain ⟨rows, h1, h2, h3, h4⟩ := h.rows
 exact Kd.R_lt h2 g (by simp [Value.ownBlock])
theorem RowAt.len (h : RowAt d e w ok g n cap xs i c) : n = xs.length ∧ i < xs.length ∧ c.length = d.sz := by
 obtain ⟨rows, h1, h2, h3, h4⟩ := h.rows
 have hn := (Kd.R_reads' h2).1
 have hi := (List.getElem?_eq_some_iff.1 h3).1
 obtain ⟨c', hcl, hM, _, _⟩ := Kd.R_elem h2 [] (i : Int) (by omega) (by omega)
 have h5 := hM.1
 rw [Int.toNat_natCast, List.getD_eq_getElem?_getD, h3] at h5
 exact ⟨by omega, by omega, by rw [show c = c' from h5.symm]; exact hcl⟩
theorem RowAt.cells (h : RowAt d e w ok g n cap xs i c) : (∀ j u, c[j]? = some u → w.cell? ⟨g, i * d.sz + j, none⟩ = some u) ∧ ∀ j, w.frozen? ⟨g, i * d.sz + j, none⟩ = false := by
 obtain ⟨rows, h1, h2, h3, h4⟩ := h.rows
 have hn := (Kd.R_reads' h2).1
 have hi := (List.getElem?_eq_some_iff.1 h3).1
 obtain ⟨c', hcl, hM, hcc, hfr⟩ := Kd.R_elem h2 [] (i : Int) (by omega) (by omega)
 have h5 := hM.1
 rw [Int.toNat_natCast, List.getD_eq_getElem?_getD, h3] at h5
 have h6 : c' = c := h5
 subst h6
 rw [Int.toNat_natCast] at hcc hfr
 exact ⟨hcc, hfr⟩
theorem RowAt.put (h : RowAt d e w ok g n cap xs i c) (hok : ∀ k, ok k → k ≠ g) {j : Nat} (hj : j < d.sz) {u : Value} (hu : u.oneCell' = true) : RowAt d e (w.setCell ⟨g, i * d.sz + j, none⟩ u) ok g n cap xs i (c.set j u) := by
 obtain ⟨hcc, _⟩ := h.cells
 obtain ⟨_, _, hcl⟩ := h.len
 obtain ⟨rows, h1, h2, h3, h4⟩ := h.rows
 have hn := (Kd.R_reads' h2).1
 have hi := (List.getElem?_eq_some_iff.1 h3).1
 have hraw : c.length = d.sz ∧ ∀ u ∈ c, u.oneCell' = true := by
  obtain ⟨c', _, hM, _, _⟩ := Kd.R_elem h2 [] (i : Int) (by omega) (by omega)
  have h5 := hM.1
  rw [Int.toNat_natCast, List.getD_eq_getElem?_getD, h3] at h5
  have h6 : c' = c := h5
  subst h6
  exact ⟨hM.2.1, hM.2.2⟩
 have hset : c.take j ++ [u] ++ c.drop (j + 1) = c.set j u := by
  rw [List.set_eq_take_append_cons_drop, if_pos (by omega)]
  simp
 obtain ⟨h5, h6⟩ := Kd.R_seg (Kd.raw_any h2) (i : Int) (by omega) (by omega) (c := c) (seg := [u]) (j := j) (x' := c.set j u) (okp := fun _ => False) hcl (by rw [Int.toNat_natCast]; exact hcc) (by simp; exact hj) (by
  show _ = _ ∧ _ = _ ∧ _
  refine ⟨hset, by rw [List.length_append, List.length_append, List.length_take, List.length_drop]; simp; omega, fun v hv => ?_⟩
  have hv2 : v ∈ c.set j u := by rw [← hset]; exact hv
  rcases List.mem_or_eq_of_mem_set hv2 with h | h
  ·exact hraw.2 v h
  ·rw [h]; exact hu) (fun _ hk => hk.elim)
 rw [Int.toNat_natCast] at h5 h6
 refine ⟨rows.set i (c.set j u), by rw [List.length_set]; exact h1, Kd.raw_tight h5, List.getElem?_set_self hi, fun j' x c' a b hj' => ?_⟩
 rw [List.getElem?_set_ne (Ne.symm hj')] at b
 exact Kd.FK_step (h4 j' x c' a b hj') (fun k hk _ => Below.heap_setCell w _ u k (hok k hk))
theorem RowAt.to_N (h : RowAt d e w ok g n cap xs i c) (hx : xs[i]? = some x) (hF : Kd.FK d w ok x c) (hok : ∀ k, ok k → k ≠ g) : Kd.N d e w 0 (fun k => ok k ∨ k = g) (.slice (some ⟨g, 0, none⟩) n cap) xs := by
 obtain ⟨rows, h1, h2, h3, h4⟩ := h.rows
 refine ⟨fun k hk => .inr ((own_iff k).1 hk.symm), rows, h1, h2, fun j y c' a b => ?_⟩
 have key : Kd.FK d w ok y c' := by
  by_cases hj : j = i
  ·subst hj
   rw [hx] at a
   rw [h3] at b
   injection a with a
   injection b with b
   rw [← a, ← b]
   exact hF
  ·exact h4 j y c' a b hj
 exact Kd.FK_mono key (fun k hk => ⟨.inl hk, fun h => hok k hk ((own_iff k).1 h)⟩)
theorem RowAt.to_N_set (h : RowAt d e w ok g n cap xs i c) {x' : α} (hF : Kd.FK d w ok x' c) (hok : ∀ k, ok k → k ≠ g) : Kd.N d e w 0 (fun k => ok k ∨ k = g) (.slice (some ⟨g, 0, none⟩) n cap) (xs.set i x') := by
 obtain ⟨_, hil, _⟩ := h.len
 obtain ⟨rows, h1, h2, h3, h4⟩ := h.rows
 refine ⟨fun k hk => .inr ((own_iff k).1 hk.symm), rows, by rw [List.length_set]; exact h1, h2, fun j y c' a b => ?_⟩
 have key : Kd.FK d w ok y c' := by
  by_cases hj : j = i
  ·subst hj
   rw [List.getElem?_set_self hil] at a
   rw [h3] at b
   injection a with a
   injection b with b
   rw [← a, ← b]
   exact hF
  ·rw [List.getElem?_set_ne (Ne.symm hj)] at a
   exact h4 j y c' a b hj
 exact Kd.FK_mono key (fun k hk => ⟨.inl hk, fun h => hok k hk ((own_iff k).1 h)⟩)
end
end Go.Proofs.YtjacphcbiaacnaaDoor.RowI
end

section
set_option linter.unusedVariables false
namespace Go.Proofs.YtjacphcbiaacnaaDoor.HeldL
open Go
section
variable {P : Program} {ops : Array Oper} {Q : Exit → Act → World → Prop} {S : World → Prop} {n : Nat} {L0 : Array Bool}
def sinkL (ops : Array Oper) (n : Nat) (L0 : Array Bool) : Bool :=
 (List.range n).all fun i => L0.getD i false || (List.range (n + 1)).any fun j => decide (i < j) && Region.waitsFor .any ops j i
abbrev Fit (ops : Array Oper) (n : Nat) (L0 : Array Bool) : Prop := (Region.noSelect ops && decide (n < ops.size) && sinkL ops n L0 && Region.chainB .any ops n) = true
theorem Fit.out (h : Fit ops n L0) : Region.noSelect ops = true ∧ n < ops.size ∧ sinkL ops n L0 = true ∧ Region.chainB .any ops n = true := by
 unfold Fit at h
 simp only [Bool.and_eq_true, decide_eq_true_eq] at h
 exact ⟨h.1.1.1, h.1.1.2, h.1.2, h.2⟩
structure Inv (ops : Array Oper) (n : Nat) (L0 listed : Array Bool) : Prop where
 up : ∀ i : Nat, L0.getD i false = true → listed.getD i false = true
 head : HeadInv .any ops n listed
theorem Inv.set {listed : Array Bool} {i : Nat} (h : Inv ops n L0 listed) (hi : i ∈ Region.ready .any ops listed) (hin : i < n) : Inv ops n L0 (listed.setIfInBounds i true) := ⟨fun j hj => getD_set_true (h.up j hj), h.head.set hi hin⟩
theorem waits (hF : Fit ops n L0) {listed : Array Bool} (inv : Inv ops n L0 listed) : ∀ (d i : Nat), n - i = d → i < n → listed.getD i true = false → ∀ t, n ≤ t → t ∉ Region.ready .any ops listed := by
 obtain ⟨_, hn, hs, hc⟩ := hF.out
 intro d
 induction d using Nat.strongRecOn with
 | _ d ih =>
  intro i hd hi hun t ht hr
  obtain ⟨_, ot, hot, hall⟩ := mem_ready.1 hr
  have htlt : t < ops.size := (Array.getElem?_eq_some_iff.1 hot).1
  rcases Nat.eq_or_lt_of_le ht with htn | htn
  ·subst htn
   have h1 := List.all_eq_true.1 hs i (List.mem_range.2 hi)
   rcases Bool.or_eq_true _ _ ▸ h1 with h1 | h1
   ·have := inv.up i h1
    rw [getD_both hun] at this; cases this
   obtain ⟨j, hj, hj2⟩ := List.any_eq_true.1 h1
   rw [Bool.and_eq_true, decide_eq_true_eq] at hj2
   obtain ⟨oj, hoj, e, he, hb, hon⟩ := Region.waitsFor_spec hj2.2
   have hjn := List.mem_range.1 hj
   rcases Nat.eq_or_lt_of_le (Nat.le_of_lt_succ hjn) with hjt | hjt
   ·subst hjt
    obtain rfl := Option.some.inj (hoj.symm.trans hot)
    have h2 := hall e he hb
    rw [hon, getD_both hun] at h2; cases h2
   ·cases hl : listed.getD j false with
    | true =>
     have h2 := inv.head.closed j oj hoj hl e he hb
     rw [hon, getD_both hun] at h2; cases h2
    | false => exact ih (n - j) (by omega) j rfl hjt (getD_in (by rw [inv.head.size]; omega) hl) n (Nat.le_refl _) hr
  ·have h1 := List.all_eq_true.1 hc t (List.mem_range.2 htlt)
   rw [Bool.or_eq_true, decide_eq_true_eq] at h1
   rcases h1 with h1 | h1
   ·omega
   ·obtain ⟨o', ho', e, he, hb, hon⟩ := Region.waitsFor_spec h1
    obtain rfl := Option.some.inj (ho'.symm.trans hot)
    have h2 := hall e he hb
    rw [hon, getD_both (inv.head.tail (t - 1) (by omega) (by omega))] at h2; cases h2
def wpT (P : Program) (ops : Array Oper) (Q : Exit → Act → World → Prop) (S : World → Prop) (n : Nat) : Nat → Array Bool → Act → World → Prop
 | 0, listed, a, w => Region.seqB .any ops (ops.size - n) n listed = true ∧ wpList P ops Q (ops.toList.drop n) a w
 | f + 1, listed, a, w => (∃ i, i < n ∧ listed.getD i true = false) ∧ Region.ready .any ops listed ≠ [] ∧
  ∀ i ∈ Region.ready .any ops listed, wpOp P ops Q i (fun a' w' => S w' ∧ wpT P ops Q S n f (listed.setIfInBounds i true) a' w') a w
theorem heads {listed : Array Bool} (hF : Fit ops n L0) (inv : Inv ops n L0 listed) (h : ∃ i, i < n ∧ listed.getD i true = false) {j : Nat} (hj : j ∈ Region.ready .any ops listed) : j < n := by
 obtain ⟨i, hi, hun⟩ := h
 rcases Nat.lt_or_ge j n with h | h
 ·exact h
 ·exact absurd hj (waits hF inv _ i rfl hi hun j h)
theorem sound (hF : Fit ops n L0) : ∀ (f : Nat) (listed : Array Bool) (a : Act) (w : World), Inv ops n L0 listed → wpT P ops Q S n f listed a w → wpAny P .any ops Q (f + (ops.size - n)) listed a w
 | 0, listed, a, w, inv, h => by
  have hl : (ops.toList.drop n).length = ops.size - n := by simp
  rw [Nat.zero_add, ← hl]
  exact wpAny_of_seq _ n listed a w (fun j => by simp) (by rw [hl]; exact h.1) h.2
 | f + 1, listed, a, w, inv, h => by
  rw [show f + 1 + (ops.size - n) = (f + (ops.size - n)) + 1 by omega]
  refine ⟨fun h0 => absurd h0 h.2.1, fun i hi => ?_⟩
  have hin := heads hF inv h.1 hi
  exact wpOp_mono (fun a' w' h' => sound hF f _ a' w' (inv.set hi hin) h'.2) (h.2.2 i hi)
theorem first_ (hF : Fit ops n L0) {i : Nat} {oi : Oper} {v : Value} (hi : ops[i]? = some oi)
  (hQ : ∀ c a w, Q (.panic c) (a.put oi.dst v) w → Q (.panic c) a w) (hin : i < n) :
  ∀ (f : Nat) (listed : Array Bool) (a : Act) (w : World), Inv ops n L0 listed →
   (∀ j oj, ops[j]? = some oj → j ≠ i → listed.getD j true = false → (∀ e ∈ oj.after, Region.binds .any e = true → e.on ≠ i) → oi.apart ops oj = true) →
   i ∈ Region.ready .any ops listed → YieldsIf P ops S oi v a → S w →
   wpT P ops Q S n f (listed.setIfInBounds i true) (a.put oi.dst v) w → wpT P ops Q S n (f + 1) listed a w := by
 have hsel := Region.noSelect_spec hF.out.1
 intro f
 induction f with
 | zero =>
  intro listed a w inv _ hr hy hS H
  have hun := (mem_ready.1 hr).1
  refine ⟨⟨i, hin, hun⟩, fun h => (by rw [h] at hr; cases hr), fun j hj => ?_⟩
  by_cases hji : j = i
  ·subst hji; exact hy.wpOp hi hS ⟨hS, H⟩
  ·have h1 := seqB_ready H.1 j (ready_mono hj hji)
   have h2 := heads hF inv ⟨i, hin, hun⟩ hj
   omega
 | succ f ih =>
  intro listed a w inv hfree hr hy hS H
  have hun := (mem_ready.1 hr).1
  refine ⟨⟨i, hin, hun⟩, fun h => (by rw [h] at hr; cases hr), fun j hj => ?_⟩
  by_cases hji : j = i
  ·subst hji; exact hy.wpOp hi hS ⟨hS, H⟩
  ·have hjn := heads hF inv ⟨i, hin, hun⟩ hj
   have h1 := H.2.2 j (ready_mono hj hji)
   obtain ⟨hjun, oj, hoj, hall⟩ := mem_ready.1 hj
   have hnot : ∀ e ∈ oj.after, Region.binds .any e = true → e.on ≠ i := fun e he hb heq => by
    have h1 := hall e he hb
    rw [heq, getD_both hun] at h1
    cases h1
   have h2 := wpOp_putIf hoj (hfree j oj hoj hji hjun hnot) (fun cs b => hsel i oi cs b hi) (fun cs b => hsel j oj cs b hoj) hQ hy h1
   have hfree' : ∀ k ok, ops[k]? = some ok → k ≠ i → (listed.setIfInBounds j true).getD k true = false →
     (∀ e ∈ ok.after, Region.binds .any e = true → e.on ≠ i) → oi.apart ops ok = true := fun k ok hk hki hun2 hno => by
    refine hfree k ok hk hki ?_ hno
    by_cases hjk : j = k
    ·subst hjk; exact hjun
    ·rw [getD_set_ne true hjk] at hun2; exact hun2
   refine wpOp_mono (fun a' w' h3 => ⟨h3.2.1, ih (listed.setIfInBounds j true) a' w' (inv.set hj hjn) hfree' (ready_mono hr (Ne.symm hji)) h3.1 h3.2.1 ?_⟩) h2
   rw [Array.setIfInBounds_comm _ _ hji]
   exact h3.2.2
def Go_ (P : Program) (ops : Array Oper) (Q : Exit → Act → World → Prop) (S : World → Prop) (n : Nat) (L0 : Array Bool) (f : Nat) (listed : Array Bool) (a : Act) (w : World) : Prop :=
 Fit ops n L0 → Inv ops n L0 listed → wpT P ops Q S n f listed a w
structure Cl (ops : Array Oper) (listed : Array Bool) : Prop where
 size : listed.size = ops.size
 closed : ∀ j oj, ops[j]? = some oj → listed.getD j false = true → ∀ e ∈ oj.after, Region.binds .any e = true → listed.getD e.on false = true
theorem Cl.set {i : Nat} {listed : Array Bool} (h : Cl ops listed) (hi : i ∈ Region.ready .any ops listed) : Cl ops (listed.setIfInBounds i true) := by
 obtain ⟨_, oi, hoi, hall⟩ := mem_ready.1 hi
 refine ⟨by simp [h.size], fun j oj hj hl e he hb => ?_⟩
 by_cases hij : i = j
 ·subst hij
  obtain rfl := Option.some.inj (hj.symm.trans hoi)
  exact getD_set_true (hall e he hb)
 ·rw [getD_set_ne false hij] at hl
  exact getD_set_true (h.closed j oj hj hl e he hb)
def Pre_ (P : Program) (ops : Array Oper) (Q : Exit → Act → World → Prop) (f : Nat) (listed : Array Bool) (a : Act) (w : World) : Prop := Cl ops listed → wpAny P .any ops Q f listed a w
theorem begin_ {id : Nat} {a : Act} {w : World} {l : List Oper} (hm : P.follows .mixedOrders = true)
  (h : Pre_ P l.toArray Q l.length (Array.replicate l.length false) a w.drew) : (Code.region id l.toArray true).wp P Q a w := by
 refine wp_region_any hm ?_
 have := h ⟨by simp, fun j oj _ hl => (by rw [getD_replicate_false] at hl; cases hl)⟩
 simpa using this
theorem pre_ {l : List Oper} (i : Nat) {oi : Oper} {v : Value} {f : Nat} {listed : Array Bool} {a : Act} {w : World} (hi0 : l[i]? = some oi) (hs : Region.noSelect l.toArray = true)
  (hf : Region.free .any l.toArray listed i = true) (hr : (Region.ready .any l.toArray listed).contains i = true)
  (hQ : ∀ c a w, Q (.panic c) (a.put oi.dst v) w → Q (.panic c) a w) (hy : Yields P l.toArray oi v a)
  (h : Pre_ P l.toArray Q f (listed.setIfInBounds i true) (a.put oi.dst v) w) : Pre_ P l.toArray Q (f + 1) listed a w := fun hc =>
 wpAny_take (by simpa using hi0) hs hf hr hQ hy (h (hc.set (by simpa using hr)))
theorem enter_ {l : List Oper} (n m : Nat) {f : Nat} {listed : Array Bool} {a : Act} {w : World} (hF : (Region.noSelect l.toArray && decide (n < l.toArray.size) && sinkL l.toArray n listed && Region.chainB .any l.toArray n) = true)
  (hB : (decide (m + (l.toArray.size - n) = f) && (List.range l.toArray.size).all fun t => decide (t < n) || !listed.getD t true) = true) (hS : S w)
  (h : S w → Go_ P l.toArray Q S n listed m listed a w) : Pre_ P l.toArray Q f listed a w := fun hc => by
 rw [Bool.and_eq_true, decide_eq_true_eq] at hB
 have inv : Inv l.toArray n listed listed := ⟨fun _ h => h, hc.size, hc.closed, fun t h1 h2 => by
  have h3 := List.all_eq_true.1 hB.2 t (List.mem_range.2 h2)
  rw [Bool.or_eq_true, decide_eq_true_eq, Bool.not_eq_true'] at h3
  rcases h3 with h3 | h3
  ·omega
  ·exact h3⟩
 have := sound (P := P) (Q := Q) (S := S) hF m _ a w inv (h hS hF inv)
 rwa [hB.1] at this
theorem take_ {l : List Oper} (i : Nat) {oi : Oper} {v : Value} {f : Nat} {listed : Array Bool} {a : Act} {w : World} (hi0 : l[i]? = some oi) (hin : decide (i < n) = true)
  (hf : Region.free .any l.toArray listed i = true) (hr : (Region.ready .any l.toArray listed).contains i = true)
  (hQ : ∀ c a w, Q (.panic c) (a.put oi.dst v) w → Q (.panic c) a w) (hS : S w) (hy : YieldsIf P l.toArray S oi v a)
  (h : Go_ P l.toArray Q S n L0 f (listed.setIfInBounds i true) (a.put oi.dst v) w) : Go_ P l.toArray Q S n L0 (f + 1) listed a w := fun hF inv => by
 have hi : l.toArray[i]? = some oi := by simpa using hi0
 have hin' : i < n := of_decide_eq_true hin
 have hr' : i ∈ Region.ready .any l.toArray listed := by simpa using hr
 exact first_ hF hi hQ hin' f listed a w inv (Region.free_spec hi hf) hr' hy hS (h hF (inv.set hr' hin'))
theorem step_ {l : List Oper} (i : Nat) {oi : Oper} {f : Nat} {listed : Array Bool} {a : Act} {w : World} (hi0 : l[i]? = some oi) (hin : decide (i < n) = true)
  (hr : Region.ready .any l.toArray listed = [i])
  (h : ∀ K' : Act → World → Prop, Shut (∀ a w, S w → (S w → Go_ P l.toArray Q S n L0 f (listed.setIfInBounds i true) a w) → K' a w) → if Region.wanted oi (yielded l.toArray a.tmps) = true then Oper.wp P oi a w K' Q else K' (a.put oi.dst undef) w) :
  Go_ P l.toArray Q S n L0 (f + 1) listed a w := fun hF inv => by
 have hi : l.toArray[i]? = some oi := by simpa using hi0
 have hin' : i < n := of_decide_eq_true hin
 have hr' : i ∈ Region.ready .any l.toArray listed := by rw [hr]; simp
 have hun := (mem_ready.1 hr').1
 refine ⟨⟨i, hin', hun⟩, by rw [hr]; simp, fun j hj => ?_⟩
 rw [hr] at hj
 have hji : j = i := by simpa using hj
 subst hji
 exact wpOp_step hi (fun K' hK => h K' (fun a w hS hW => hK a w ⟨hS, hW hS hF (inv.set hr' hin')⟩))
theorem rest_ {l : List Oper} {listed : Array Bool} {a : Act} {w : World} (hB : Region.seqB .any l.toArray (l.toArray.size - n) n listed = true) (h : wpList P l.toArray Q (l.drop n) a w) : Go_ P l.toArray Q S n L0 0 listed a w := fun _ _ => ⟨hB, h⟩
end
end Go.Proofs.YtjacphcbiaacnaaDoor.HeldL
end

