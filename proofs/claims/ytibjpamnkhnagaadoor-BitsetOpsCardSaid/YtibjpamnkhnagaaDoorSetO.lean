/- The kind of an operation. -/
import Derived.Test.YtibjpamnkhnagaaDoorSetN
import Derived.Test.YtibjpamnkhnagaaDoorOpens
set_option linter.unusedVariables false
set_option linter.unusedSimpArgs false
namespace Go.Proofs.YtibjpamnkhnagaaDoor
open Go.RowKit Go.Proofs.YtibjpamnkhnagaaDoorW.PrintWords Mem Bit

structure S38 where
  f0 : Int
  f1 : Int
  f2 : Int
  f3 : List Int
def z38 : S38 := ⟨(0 : Int), (0 : Int), (0 : Int), ([] : List Int)⟩
def k38 : Kd S38 := Kd.iso (Kd.pair (Kd.int .i64) (Kd.pair (Kd.int .i64) (Kd.pair (Kd.int .i64) (Kd.slice 3 (Kd.int .i64))))) (fun x : S38 => (x.f0, x.f1, x.f2, x.f3))
theorem k38_open {w : World} {x : S38} {cs : List Value} (h : k38.K w x cs) : ∃ A2 c2, cs = [.int .i64 x.f0, .int .i64 x.f1, .int .i64 x.f2, .slice A2 x.f3.length c2] ∧ x.f3.length ≤ c2 ∧ (Kd.int .i64).C w A2 x.f3.length x.f3 := by
  obtain ⟨_, _, rfl, rfl, ⟨_, _, rfl, rfl, ⟨_, _, rfl, rfl, ⟨A2, c2, rfl, l2, g2⟩⟩⟩⟩ := h
  exact ⟨A2, c2, rfl, l2, g2⟩
def rd_T38 (xs : List S38) (i : Int) : S38 := xs.getD i.toNat z38
theorem at_T38 {w : World} {A : Option Addr} {n : Nat} {xs : List S38} (h : Kd.C k38 w A n xs) (i : Int) (h0 : 0 ≤ i) (h1 : i < n) : ∃ ad A2 c2, A = some ad ∧ w.cell? (ad.add (i.toNat * 4)) = some (.int .i64 (rd_T38 xs i).f0) ∧ w.cell? ⟨(ad.add (i.toNat * 4)).block, (ad.add (i.toNat * 4)).off + 1, none⟩ = some (.int .i64 (rd_T38 xs i).f1) ∧ w.cell? ⟨(ad.add (i.toNat * 4)).block, (ad.add (i.toNat * 4)).off + 2, none⟩ = some (.int .i64 (rd_T38 xs i).f2) ∧ w.cell? ⟨(ad.add (i.toNat * 4)).block, (ad.add (i.toNat * 4)).off + 3, none⟩ = some (.slice A2 (rd_T38 xs i).f3.length c2) ∧ (rd_T38 xs i).f3.length ≤ c2 ∧ (Kd.int .i64).C w A2 (rd_T38 xs i).f3.length (rd_T38 xs i).f3 := by
  obtain ⟨ad, c, e, _, hK, hc0⟩ := Kd.C_get h z38 i h0 h1
  have hc : ∀ j u, c[j]? = some u → w.cell? (ad.add (i.toNat * 4 + j)) = some u := hc0
  obtain ⟨A2, c2, rfl, l2, g2⟩ := k38_open hK
  exact ⟨ad, A2, c2, e, hc 0 _ rfl, by rw [← add_field _ _ 1 (by omega)]; exact hc 1 _ rfl, by rw [← add_field _ _ 2 (by omega)]; exact hc 2 _ rfl, by rw [← add_field _ _ 3 (by omega)]; exact hc 3 _ rfl, l2, g2⟩

def fKind : Field := { name := "Kind", type := 3, offset := 0, embedded := false, tag := "", pkgPath := "", byteOffset := 0 }
def fI : Field := { name := "I", type := 3, offset := 1, embedded := false, tag := "", pkgPath := "", byteOffset := 8 }
def fCap : Field := { name := "Cap", type := 3, offset := 2, embedded := false, tag := "", pkgPath := "", byteOffset := 16 }
def fElems : Field := { name := "Elems", type := 22, offset := 3, embedded := false, tag := "", pkgPath := "", byteOffset := 24 }
theorem step_op {H : Type} {enc : TypeId × Value → H} {W : World} : Opens.Op enc Tryd.prog W 38 k38 (fun x => True ∧ True ∧ True ∧ x.f3.length * 8 ≤ 140737488351232) :=
  (Opens.Op.struct (Opens.Fs.cons (f := fKind) (Opens.Op.int Tryd.underlying3) (Opens.Fs.cons (f := fI) (Opens.Op.int Tryd.underlying3) (Opens.Fs.cons (f := fCap) (Opens.Op.int Tryd.underlying3) (Opens.Fs.one (f := fElems) (Opens.Op.slice (B := 8) (Opens.Op.int Tryd.underlying3) Tryd.underlying22 (by kernel_rfl) (by kernel_rfl)) (by kernel_rfl)) (by kernel_rfl) rfl) (by kernel_rfl) rfl) (by kernel_rfl) rfl) Tryd.underlying38 rfl (by kernel_rfl) (fun x : S38 => (x.f0, x.f1, x.f2, x.f3)) (fun z => ⟨z.1, z.2.1, z.2.2.1, z.2.2.2⟩) (fun _ => rfl)).imp
    (fun (x : S38) h => ⟨trivial, trivial, trivial, h.2.2.2.1⟩)
end Go.Proofs.YtibjpamnkhnagaaDoor
