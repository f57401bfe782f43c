import Derived.StillTailTactics
import Derived.Deep.RegionHeld3
import Derived.LoopTactic
import Derived.BigQuiet
import Derived.Test.YtjacphcbiaacnaaDoorMSFu11
section
set_option linter.unusedVariables false
set_option linter.unusedSimpArgs false
set_option linter.unusedSectionVars false
namespace Go.Proofs.YtjacphcbiaacnaaDoor
open Go.RowKit Go.Proofs.YtjacphcbiaacnaaDoorW.PrintWords Go.Proofs.YtjacphcbiaacnaaDoor.PDigraphTells Sc
def latI (Lat : List Int) (o : Int) : Int := if o < 0 then 1 else if o ≥ (Lat.length : Int) then 1 else rd Lat o
def insS (W : Int) (Lat : List Int) (B : List S48) : Ins where
 n := B.length
 D := fun k i => depB (rd_T48 B (k : Int)) (rd_T48 B (i : Int))
 dl := fun i k => if usB (rd_T48 B (k : Int)) (rd_T48 B (i : Int)) = true then latI Lat (rd_T48 B (i : Int)).f0 else 0
 lt := fun i => latI Lat (rd_T48 B (i : Int)).f0
 w := W.toNat
def inB (x : Int) : Bool := decide (1 ≤ x ∧ x ≤ 100)
def vB (W R : Int) (Lat : List Int) : Bool := decide ((1 ≤ W ∧ W ≤ 8) ∧ (8 ≤ R ∧ R ≤ 64) ∧ (Lat.length : Int) ≤ 64)
def validB (W R : Int) (Lat : List Int) : Bool := Lat.all inB && vB W R Lat
theorem validB_iff {W R : Int} {Lat : List Int} (h : validB W R Lat = true) : (∀ x ∈ Lat, 1 ≤ x ∧ x ≤ 100) ∧ (1 ≤ W ∧ W ≤ 8) ∧ Lat.length ≤ 64 := by
 unfold validB vB inB at h
 rw [Bool.and_eq_true, List.all_eq_true, decide_eq_true_eq] at h
 exact ⟨fun x hx => of_decide_eq_true (h.1 x hx), h.2.1, by omega⟩
structure sml (B : List S48) : Prop where
 len : B.length ≤ 60
 arg : ∀ i : Nat, i < B.length → (rd_T48 B (i : Int)).f3.length ≤ 40
theorem lat_f (W R : Int) (Lat : List Int) (o : Int) : machine_Latency.f W R Lat o = some (latI Lat o) := by
 unfold machine_Latency.f latI
 by_cases h1 : o < 0
 ·rw [if_pos h1, if_pos h1]
 ·rw [if_neg h1, if_neg h1]
  by_cases h2 : o ≥ (Lat.length : Int)
  ·rw [if_pos h2, if_pos h2]
  ·rw [if_neg h2, if_neg h2, if_pos (by omega), if_pos (by omega)]
theorem rlat_f (W R : Int) (Lat : List Int) (o : Int) : burnishref50_Latency.f W R Lat o = some (latI Lat o) := by
 unfold burnishref50_Latency.f latI
 by_cases h1 : o < 0
 ·rw [if_pos h1, if_pos h1]
 ·rw [if_neg h1, if_neg h1]
  by_cases h2 : o ≥ (Lat.length : Int)
  ·rw [if_pos h2, if_pos h2]
  ·rw [if_neg h2, if_neg h2, if_pos (by omega), if_pos (by omega)]
theorem latI_range {Lat : List Int} (h : ∀ x ∈ Lat, 1 ≤ x ∧ x ≤ 100) (o : Int) : 1 ≤ latI Lat o ∧ latI Lat o ≤ 100 := by
 unfold latI
 split
 ·omega
 ·split
  ·omega
  ·rename_i h1 h2
   have e : o = (o.toNat : Int) := by omega
   have hlt : o.toNat < Lat.length := by omega
   rw [e, rd_get Lat o.toNat hlt]
   exact h _ (List.getElem_mem hlt)
theorem insS_ok {W R : Int} {Lat : List Int} {B : List S48} (hv : validB W R Lat = true) (hB : B.length ≤ 60) : Ok (insS W Lat B) := by
 have hv := validB_iff hv
 refine ⟨by show B.length ≤ 100; omega, fun i => latI_range hv.1 _, fun i k => ?_, ?_⟩
 ·show (if _ then _ else (0 : Int)) = 0 ∨ (if _ then _ else (0 : Int)) = _
  split
  ·exact .inr rfl
  ·exact .inl rfl
 ·show 1 ≤ W.toNat ∧ W.toNat ≤ 8
  omega
theorem within_f (a b c : Int) : machine_within.f a b c = some (decide (b ≤ a ∧ a ≤ c)) := by
 unfold machine_within.f
 by_cases h : a ≥ b
 ·rw [if_pos h]; congr 1; exact decide_eq_decide.2 ⟨fun h2 => ⟨h, h2⟩, fun h2 => h2.2⟩
 ·rw [if_neg h, decide_eq_false (fun h2 => h h2.1)]
theorem valid_l0 (W R : Int) (Lat : List Int) (hl : Lat.length < 1000000000) : ∀ (d i : Nat), i + d = Lat.length → Ev (fun q => machine_ValidModel.l0 q Lat (Lat.length : Int) (i : Int) W R Lat) ((Lat.drop i).all inB && vB W R Lat) := by
 intro d
 induction d with
 | zero =>
  intro i hi
  rw [List.drop_of_length_le (by omega), List.all_nil, Bool.true_and]
  refine Ev.fix fun q => ?_
  rw [machine_ValidModel.l0, if_neg (by omega), within_f, Option.bind_some, within_f]
  unfold vB
  by_cases h1 : 1 ≤ W ∧ W ≤ 8
  ·rw [if_pos (decide_eq_true h1), Option.bind_some]
   by_cases h2 : 8 ≤ R ∧ R ≤ 64
   ·rw [if_pos (decide_eq_true h2)]
    congr 1
    exact decide_eq_decide.2 ⟨fun h3 => ⟨h1, h2, h3⟩, fun h3 => h3.2.2⟩
   ·rw [if_neg (by simpa using h2), decide_eq_false (fun h3 => h2 h3.2.1)]
  ·rw [if_neg (by simpa using h1), decide_eq_false (fun h3 => h1 h3.1)]
 | succ d ih =>
  intro i hi
  have hlt : i < Lat.length := by omega
  rw [List.drop_eq_getElem_cons hlt, List.all_cons]
  by_cases h1 : 1 ≤ Lat[i] ∧ Lat[i] ≤ 100
  ·rw [show inB Lat[i] = true from decide_eq_true h1, Bool.true_and]
   refine Ev.suc (fun q => ?_) (ih (i + 1) (by omega))
   show machine_ValidModel.l0 (q + 1) _ _ _ _ _ _ = _
   rw [machine_ValidModel.l0, if_pos (by omega), if_pos (by omega), if_pos (by omega), rd_get Lat i hlt, within_f, Option.bind_some, if_pos (decide_eq_true h1), w64 i (by omega)]
  ·rw [show inB Lat[i] = false from decide_eq_false h1, Bool.false_and, Bool.false_and]
   refine Ev.fix fun q => ?_
   rw [machine_ValidModel.l0, if_pos (by omega), if_pos (by omega), if_pos (by omega), rd_get Lat i hlt, within_f, Option.bind_some, if_neg (by simpa using h1)]
theorem valid_f (W R : Int) (Lat : List Int) (hl : Lat.length < 1000000000) : Ev (fun q => machine_ValidModel.f q W R Lat) (validB W R Lat) := by
 have h := valid_l0 W R Lat hl Lat.length 0 (Nat.zero_add _)
 rw [List.drop_zero] at h
 exact h
theorem rvalid_l0 (Lat : List Int) (hl : Lat.length < 1000000000) : ∀ (d i : Nat), i + d = Lat.length → Ev (fun q => burnishref50_ValidModel.l0 q Lat (Lat.length : Int) (i : Int)) ((Lat.drop i).all inB) := by
 intro d
 induction d with
 | zero =>
  intro i hi
  rw [List.drop_of_length_le (by omega), List.all_nil]
  exact Ev.fix fun q => by rw [burnishref50_ValidModel.l0, if_neg (by omega)]
 | succ d ih =>
  intro i hi
  have hlt : i < Lat.length := by omega
  rw [List.drop_eq_getElem_cons hlt, List.all_cons]
  by_cases h1 : 1 ≤ Lat[i] ∧ Lat[i] ≤ 100
  ·rw [show inB Lat[i] = true from decide_eq_true h1, Bool.true_and]
   refine Ev.suc (fun q => ?_) (ih (i + 1) (by omega))
   show burnishref50_ValidModel.l0 (q + 1) _ _ _ = _
   rw [burnishref50_ValidModel.l0, if_pos (by omega), if_pos (by omega), if_pos (by omega), rd_get Lat i hlt, if_neg (by omega), if_neg (by omega), w64 i (by omega)]
  ·rw [show inB Lat[i] = false from decide_eq_false h1, Bool.false_and]
   refine Ev.fix fun q => ?_
   rw [burnishref50_ValidModel.l0, if_pos (by omega), if_pos (by omega), if_pos (by omega), rd_get Lat i hlt]
   by_cases h2 : Lat[i] < 1
   ·rw [if_pos h2]
   ·rw [if_neg h2, if_pos (by omega)]
theorem rvalid_f (W R : Int) (Lat : List Int) (hl : Lat.length < 1000000000) : Ev (fun q => burnishref50_ValidModel.f q W R Lat) (validB W R Lat) := by
 have h := rvalid_l0 Lat hl Lat.length 0 (Nat.zero_add _)
 rw [List.drop_zero] at h
 have hj : Ev (fun q => burnishref50_ValidModel.j0 q true W R Lat) false := Ev.fix fun q => by rw [burnishref50_ValidModel.j0, if_pos rfl]
 unfold burnishref50_ValidModel.f validB
 have hno : ¬ ((1 ≤ W ∧ W ≤ 8) ∧ (8 ≤ R ∧ R ≤ 64) ∧ (Lat.length : Int) ≤ 64) → (Lat.all inB && vB W R Lat) = false := fun h9 => by
  rw [show vB W R Lat = false from decide_eq_false h9, Bool.and_false]
 by_cases h1 : W < 1
 ·rw [hno (fun h => by omega)]; exact Ev.of (fun q => by rw [if_pos h1]) hj
 by_cases h2 : W > 8
 ·rw [hno (fun h => by omega)]; exact Ev.of (fun q => by rw [if_neg h1, if_pos h2]) hj
 by_cases h3 : R < 8
 ·rw [hno (fun h => by omega)]; exact Ev.of (fun q => by rw [if_neg h1, if_neg h2, if_pos h3]) hj
 by_cases h4 : R > 64
 ·rw [hno (fun h => by omega)]; exact Ev.of (fun q => by rw [if_neg h1, if_neg h2, if_neg h3, if_pos h4]) hj
 refine Ev.of (fun q => by rw [if_neg h1, if_neg h2, if_neg h3, if_neg h4]) ?_
 by_cases h5 : (Lat.length : Int) > 64
 ·rw [hno (fun h => by omega)]
  exact Ev.of (fun q => by rw [decide_eq_true h5]) hj
 ·refine Ev.of (fun q => by rw [decide_eq_false h5]) (Ev.suc (fun q => by show burnishref50_ValidModel.j0 (q + 1) _ _ _ _ = _; rw [burnishref50_ValidModel.j0, if_neg (by simp)]) ?_)
  rw [show vB W R Lat = true from decide_eq_true ⟨by omega, by omega, by omega⟩, Bool.and_true]
  exact h
def tb1 (n : Nat) (f : Nat → List Int) : List (List Int) := (List.range n).map f
theorem tb1_len (n : Nat) (f : Nat → List Int) : (tb1 n f).length = n := by simp [tb1]
theorem tb1_rd {n : Nat} (f : Nat → List Int) {i : Nat} (h : i < n) : rd_L1 (tb1 n f) (i : Int) = f i := by
 rw [rd1_get _ i (by rw [tb1_len]; exact h)]; simp [tb1]
theorem tb1_set {n : Nat} (f : Nat → List Int) (i : Nat) (v : List Int) : (tb1 n f).set i v = tb1 n (fun c => if c = i then v else f c) := by
 refine List.ext_getElem (by simp [tb1]) fun j h1 h2 => ?_
 rw [List.getElem_set]
 simp only [tb1, List.getElem_map, List.getElem_range]
 by_cases e : i = j
 ·rw [if_pos e, if_pos e.symm]
 ·rw [if_neg e, if_neg (fun h => e h.symm)]
theorem tb1_ext {n : Nat} {f g : Nat → List Int} (h : ∀ i, i < n → f i = g i) : tb1 n f = tb1 n g := by
 unfold tb1
 exact List.map_congr_left fun i hi => h i (List.mem_range.1 hi)
def depP (B : List S48) (k j : Nat) : List Int := ((List.range j).filter fun (i : Nat) => depB (rd_T48 B (k : Int)) (rd_T48 B (i : Int))).map fun (i : Nat) => (i : Int)
def depL (B : List S48) : List (List Int) := tb1 B.length fun k => depP B k k
theorem depP_succ (B : List S48) (k j : Nat) : depP B k (j + 1) = depP B k j ++ if depB (rd_T48 B (k : Int)) (rd_T48 B (j : Int)) = true then [(j : Int)] else [] := by
 unfold depP
 rw [List.range_succ, List.filter_append, List.map_append]
 by_cases h : depB (rd_T48 B (k : Int)) (rd_T48 B (j : Int)) = true <;> simp [h]
theorem depP_len (B : List S48) (k j : Nat) : (depP B k j).length ≤ j := by
 unfold depP
 rw [List.length_map]
 have := List.length_filter_le (fun (i : Nat) => depB (rd_T48 B (k : Int)) (rd_T48 B (i : Int))) (List.range j)
 rwa [List.length_range] at this
def depS (B : List S48) (k j c : Nat) : List Int := if c < k then depP B c c else if c = k then depP B k j else []
section
variable (P : List Int) (B : List S48) (t0 : Int) (t1 t2 : List Int) (t3 : List S98) (t4 : Int) (hB : sml B)
include hB
theorem deps_l1 {k : Nat} (hk : k < B.length) {r : List (List Int)} (hnext : Ev (fun q => sched_Dependences.l0 q (tb1 B.length (depS B (k + 1) 0)) (B.length : Int) ((k + 1 : Nat) : Int) P B t0 t1 t2 t3 t4) r) : ∀ (d j : Nat), j + d = k →
  Ev (fun q => sched_Dependences.l1 q (tb1 B.length (depS B k j)) (k : Int) (B.length : Int) (k : Int) (k : Int) (j : Int) P B t0 t1 t2 t3 t4) r := by
 have hl := hB.len
 intro d
 induction d with
 | zero =>
  intro j hj
  obtain rfl : j = k := by omega
  refine Ev.suc (fun q => ?_) hnext
  show sched_Dependences.l1 (q + 1) _ _ _ _ _ _ _ _ _ _ _ _ _ = _
  rw [sched_Dependences.l1, if_neg (by omega), w64 j (by omega)]
  congr 1
  refine tb1_ext fun c hc => ?_
  unfold depS
  by_cases h1 : c < j
  ·rw [if_pos h1, if_pos (by omega)]
  ·by_cases h2 : c = j
   ·rw [if_neg h1, if_pos h2, if_pos (by omega), h2]
   ·rw [if_neg h1, if_neg h2, if_neg (by omega)]
    split
    ·unfold depP; simp
    ·rfl
 | succ d ih =>
  intro j hj
  have hjl : j < B.length := by omega
  have hd := dep_f (rd_T48 B (k : Int)).f0 (rd_T48 B (k : Int)).f1 (rd_T48 B (k : Int)).f2 (rd_T48 B (k : Int)).f3 (rd_T48 B (k : Int)).f4 (rd_T48 B (k : Int)).f5 (rd_T48 B (k : Int)).f6 (rd_T48 B (k : Int)).f7 (rd_T48 B (j : Int)).f0 (rd_T48 B (j : Int)).f1 (rd_T48 B (j : Int)).f2 (rd_T48 B (j : Int)).f3 (rd_T48 B (j : Int)).f4 (rd_T48 B (j : Int)).f5 (rd_T48 B (j : Int)).f6 (rd_T48 B (j : Int)).f7 (by have := hB.arg k hk; omega) (by have := hB.arg j hjl; omega)
  have hrow : rd_L1 (tb1 B.length (depS B k j)) (k : Int) = depP B k j := by rw [tb1_rd _ hk]; unfold depS; rw [if_neg (by omega), if_pos rfl]
  have hpl := depP_len B k j
  have hset : ∀ v, v = depP B k (j + 1) → (tb1 B.length (depS B k j)).set k v = tb1 B.length (depS B k (j + 1)) := fun v hv => by
   rw [tb1_set]
   refine tb1_ext fun c hc => ?_
   unfold depS
   by_cases h2 : c = k
   ·rw [if_pos h2, if_neg (by omega), if_pos h2, hv]
   ·rw [if_neg h2, if_neg h2]
    by_cases h1 : c < k
    ·rw [if_pos h1, if_pos h1]
    ·rw [if_neg h1, if_neg h1, if_neg h2]
  refine Ev.suc (fun q => by show sched_Dependences.l1 (q + 1) _ _ _ _ _ _ _ _ _ _ _ _ _ = _; rw [sched_Dependences.l1, if_pos (by omega), if_pos (by omega), if_pos (by omega), if_pos (by omega), if_pos (by omega)]) (Ev.bind hd ?_)
  cases hb : depB (rd_T48 B (k : Int)) (rd_T48 B (j : Int)) with
  | true =>
   refine Ev.of (fun q => ?_) (ih (j + 1) (by omega))
   rw [if_pos rfl, if_pos (by rw [tb1_len]; omega), hrow, if_pos (by omega), w64 j (by omega), Int.toNat_natCast, hset _ (by rw [depP_succ, hb]; simp)]
  | false =>
   refine Ev.of (fun q => ?_) (ih (j + 1) (by omega))
   rw [if_neg (by simp), w64 j (by omega)]
   congr 1
   refine tb1_ext fun c hc => ?_
   unfold depS
   rw [depP_succ, hb]; simp
theorem deps_l0 : ∀ (d k : Nat), k + d = B.length → Ev (fun q => sched_Dependences.l0 q (tb1 B.length (depS B k 0)) (B.length : Int) (k : Int) P B t0 t1 t2 t3 t4) (depL B) := by
 have hl := hB.len
 intro d
 induction d with
 | zero =>
  intro k hk
  refine Ev.fix fun q => ?_
  rw [sched_Dependences.l0, if_neg (by omega)]
  congr 1
  refine tb1_ext fun c hc => ?_
  unfold depS
  rw [if_pos (by omega)]
 | succ d ih =>
  intro k hk
  refine Ev.suc (fun q => ?_) (deps_l1 P B t0 t1 t2 t3 t4 hB (k := k) (by omega) (ih (k + 1) (by omega)) k 0 (Nat.zero_add _))
  show sched_Dependences.l0 (q + 1) _ _ _ _ _ _ _ _ _ _ = _
  rw [sched_Dependences.l0, if_pos (by omega)]
  rfl
theorem deps_f : Ev (fun q => sched_Dependences.f q P B t0 t1 t2 t3 t4) (depL B) := by
 have hl := hB.len
 unfold sched_Dependences.f
 refine Ev.of (fun q => ?_) (deps_l0 P B t0 t1 t2 t3 t4 hB B.length 0 (Nat.zero_add _))
 rw [if_pos (by omega), if_pos (by omega)]
 congr 1
 refine List.ext_getElem (by simp [tb1]) fun j h1 h2 => ?_
 simp [tb1, depS, depP]
theorem rdeps_l1 {k : Nat} (hk : k < B.length) {r : List (List Int)} (hnext : Ev (fun q => burnishref52_Dependences.l0 q (tb1 B.length (depS B (k + 1) 0)) (B.length : Int) ((k + 1 : Nat) : Int) P B t0 t1 t2 t3 t4) r) : ∀ (d j : Nat), j + d = k →
  Ev (fun q => burnishref52_Dependences.l1 q (tb1 B.length (depS B k j)) (k : Int) (j : Int) (B.length : Int) (k : Int) P B t0 t1 t2 t3 t4) r := by
 have hl := hB.len
 intro d
 induction d with
 | zero =>
  intro j hj
  obtain rfl : j = k := by omega
  refine Ev.suc (fun q => ?_) hnext
  show burnishref52_Dependences.l1 (q + 1) _ _ _ _ _ _ _ _ _ _ _ _ = _
  rw [burnishref52_Dependences.l1, if_neg (by omega), w64 j (by omega)]
  congr 1
  refine tb1_ext fun c hc => ?_
  unfold depS
  by_cases h1 : c < j
  ·rw [if_pos h1, if_pos (by omega)]
  ·by_cases h2 : c = j
   ·rw [if_neg h1, if_pos h2, if_pos (by omega), h2]
   ·rw [if_neg h1, if_neg h2, if_neg (by omega)]
    split
    ·unfold depP; simp
    ·rfl
 | succ d ih =>
  intro j hj
  have hjl : j < B.length := by omega
  have hd := rdep_f (rd_T48 B (k : Int)).f0 (rd_T48 B (k : Int)).f1 (rd_T48 B (k : Int)).f2 (rd_T48 B (k : Int)).f3 (rd_T48 B (k : Int)).f4 (rd_T48 B (k : Int)).f5 (rd_T48 B (k : Int)).f6 (rd_T48 B (k : Int)).f7 (rd_T48 B (j : Int)).f0 (rd_T48 B (j : Int)).f1 (rd_T48 B (j : Int)).f2 (rd_T48 B (j : Int)).f3 (rd_T48 B (j : Int)).f4 (rd_T48 B (j : Int)).f5 (rd_T48 B (j : Int)).f6 (rd_T48 B (j : Int)).f7 (by have := hB.arg k hk; omega) (by have := hB.arg j hjl; omega)
  have hrow : rd_L1 (tb1 B.length (depS B k j)) (k : Int) = depP B k j := by rw [tb1_rd _ hk]; unfold depS; rw [if_neg (by omega), if_pos rfl]
  have hpl := depP_len B k j
  have hset : ∀ v, v = depP B k (j + 1) → (tb1 B.length (depS B k j)).set k v = tb1 B.length (depS B k (j + 1)) := fun v hv => by
   rw [tb1_set]
   refine tb1_ext fun c hc => ?_
   unfold depS
   by_cases h2 : c = k
   ·rw [if_pos h2, if_neg (by omega), if_pos h2, hv]
   ·rw [if_neg h2, if_neg h2]
    by_cases h1 : c < k
    ·rw [if_pos h1, if_pos h1]
    ·rw [if_neg h1, if_neg h1, if_neg h2]
  refine Ev.suc (fun q => by show burnishref52_Dependences.l1 (q + 1) _ _ _ _ _ _ _ _ _ _ _ _ = _; rw [burnishref52_Dependences.l1, if_pos (by omega), if_pos (by omega), if_pos (by omega), if_pos (by omega), if_pos (by omega)]) (Ev.bind hd ?_)
  cases hb : depB (rd_T48 B (k : Int)) (rd_T48 B (j : Int)) with
  | true =>
   refine Ev.of (fun q => ?_) (ih (j + 1) (by omega))
   rw [if_pos rfl, if_pos (by rw [tb1_len]; omega), hrow, if_pos (by omega), w64 j (by omega), Int.toNat_natCast, hset _ (by rw [depP_succ, hb]; simp)]
  | false =>
   refine Ev.of (fun q => ?_) (ih (j + 1) (by omega))
   rw [if_neg (by simp), w64 j (by omega)]
   congr 1
   refine tb1_ext fun c hc => ?_
   unfold depS
   rw [depP_succ, hb]; simp
theorem rdeps_l0 : ∀ (d k : Nat), k + d = B.length → Ev (fun q => burnishref52_Dependences.l0 q (tb1 B.length (depS B k 0)) (B.length : Int) (k : Int) P B t0 t1 t2 t3 t4) (depL B) := by
 have hl := hB.len
 intro d
 induction d with
 | zero =>
  intro k hk
  refine Ev.fix fun q => ?_
  rw [burnishref52_Dependences.l0, if_neg (by omega)]
  congr 1
  refine tb1_ext fun c hc => ?_
  unfold depS
  rw [if_pos (by omega)]
 | succ d ih =>
  intro k hk
  refine Ev.suc (fun q => ?_) (rdeps_l1 P B t0 t1 t2 t3 t4 hB (k := k) (by omega) (ih (k + 1) (by omega)) k 0 (Nat.zero_add _))
  show burnishref52_Dependences.l0 (q + 1) _ _ _ _ _ _ _ _ _ _ = _
  rw [burnishref52_Dependences.l0, if_pos (by omega)]
  rfl
theorem rdeps_f : Ev (fun q => burnishref52_Dependences.f q P B t0 t1 t2 t3 t4) (depL B) := by
 have hl := hB.len
 unfold burnishref52_Dependences.f
 refine Ev.of (fun q => ?_) (rdeps_l0 P B t0 t1 t2 t3 t4 hB B.length 0 (Nat.zero_add _))
 rw [if_pos (by omega), if_pos (by omega), Option.bind_some]
 rw [show (List.replicate (B.length : Int).toNat ([] : List Int)) = tb1 B.length (depS B 0 0) from by
  refine List.ext_getElem (by simp [tb1]) fun j h1 h2 => ?_
  simp [tb1, depS, depP], tb1_len]
 rfl
end
theorem rdL_dep {B : List S48} {k : Nat} (h : k < B.length) : rd_L1 (depL B) (k : Int) = depP B k k := tb1_rd _ h
theorem mem_depP {B : List S48} {k j : Nat} {x : Int} : x ∈ depP B k j ↔ ∃ i : Nat, x = (i : Int) ∧ i < j ∧ depB (rd_T48 B (k : Int)) (rd_T48 B (i : Int)) = true := by
 unfold depP
 rw [List.mem_map]
 constructor
 ·rintro ⟨i, hi, rfl⟩
  rw [List.mem_filter, List.mem_range] at hi
  exact ⟨i, rfl, hi.1, hi.2⟩
 ·rintro ⟨i, rfl, h1, h2⟩
  exact ⟨i, List.mem_filter.2 ⟨List.mem_range.2 h1, h2⟩, rfl⟩
theorem large_l0 (B : List S48) (hl : B.length ≤ 60) : ∀ (d i : Nat), i + d = B.length → ∃ b, Ev (fun q => burnishlaw52_large.l0 q B (B.length : Int) (i : Int)) b ∧ (b = false → ∀ j : Nat, i ≤ j → j < B.length → (rd_T48 B (j : Int)).f3.length ≤ 40) := by
 intro d
 induction d with
 | zero =>
  intro i hi
  exact ⟨false, Ev.fix fun q => by rw [burnishlaw52_large.l0, if_neg (by omega)], fun _ j h1 h2 => by omega⟩
 | succ d ih =>
  intro i hi
  by_cases h : ((rd_T48 B (i : Int)).f3.length : Int) > 40
  ·exact ⟨true, Ev.fix fun q => by rw [burnishlaw52_large.l0, if_pos (by omega), if_pos (by omega), if_pos (by omega), if_pos h], fun h => by cases h⟩
  ·obtain ⟨b, h1, h2⟩ := ih (i + 1) (by omega)
   refine ⟨b, Ev.suc (fun q => ?_) h1, fun hb j hij hj => ?_⟩
   ·show burnishlaw52_large.l0 (q + 1) _ _ _ = _
    rw [burnishlaw52_large.l0, if_pos (by omega), if_pos (by omega), if_pos (by omega), if_neg h, w64 i (by omega)]
   ·by_cases e : j = i
    ·subst e; omega
    ·exact h2 hb j (by omega) hj
theorem large_f (P : List Int) (B : List S48) (t0 : Int) (t1 t2 : List Int) (t3 : List S98) (t4 : Int) : ∃ b, Ev (fun q => burnishlaw52_large.f q P B t0 t1 t2 t3 t4) b ∧ (b = false → sml B) := by
 unfold burnishlaw52_large.f
 by_cases h : (B.length : Int) > 60
 ·exact ⟨true, Ev.of (fun q => by rw [if_pos h]) (Ev.ret _), fun h => by cases h⟩
 ·obtain ⟨b, h1, h2⟩ := large_l0 B (by omega) B.length 0 (Nat.zero_add _)
  exact ⟨b, Ev.of (fun q => by rw [if_neg h]; rfl) h1, fun hb => ⟨by omega, fun i hi => h2 hb i (by omega) hi⟩⟩
end Go.Proofs.YtjacphcbiaacnaaDoor
end

section
set_option linter.unusedVariables false
set_option linter.unusedSimpArgs false
set_option linter.unusedSectionVars false
namespace Go.Proofs.YtjacphcbiaacnaaDoor
open Go.RowKit Go.Proofs.YtjacphcbiaacnaaDoorW.PrintWords Go.Proofs.YtjacphcbiaacnaaDoor.PDigraphTells Sc
structure Hp (S : Ins) (T : List Int) (m : Nat) : Prop where
 len : T.length = S.n
 eq : ∀ i, m ≤ i → i < S.n → rd T (i : Int) = S.lt i ∨ ∃ k, i < k ∧ k < S.n ∧ S.D k i = true ∧ rd T (i : Int) = S.dl i k + rd T (k : Int)
 lo : ∀ i, m ≤ i → i < S.n → S.lt i ≤ rd T (i : Int)
 up : ∀ i k, m ≤ i → i < k → k < S.n → S.D k i = true → S.dl i k + rd T (k : Int) ≤ rd T (i : Int)
theorem Hp.hs {S : Ins} {T : List Int} (h : Hp S T 0) : Hs S (fun i => rd T (i : Int)) := ⟨fun i hi => h.eq i (Nat.zero_le _) hi, fun i hi => h.lo i (Nat.zero_le _) hi, fun i k h1 h2 h3 => h.up i k (Nat.zero_le _) h1 h2 h3⟩
theorem Hp.bd {S : Ins} (hS : Ok S) {T : List Int} {m : Nat} (h : Hp S T m) : ∀ (d i : Nat), i + d = S.n → m ≤ i → i < S.n → 1 ≤ rd T (i : Int) ∧ rd T (i : Int) ≤ 100 * d := by
 intro d
 induction d using Nat.strongRecOn with
 | ind d ih =>
  intro i hd hm hi
  have h0 := h.lo i hm hi
  have h9 := hS.lt1 i
  refine ⟨by omega, ?_⟩
  rcases h.eq i hm hi with h1 | ⟨k, h1, h2, h3, h4⟩
  ·omega
  ·have h5 := (ih (S.n - k) (by omega) k (by omega) (by omega) h2).2
   have h6 := (hS.dl1 i k).2
   omega
theorem Hp.uniq {S : Ins} {T U : List Int} (h : Hp S T 0) (g : Hp S U 0) : T = U := by
 refine rd_ext (by rw [h.len, g.len]) fun i hi => ?_
 exact Hs.uniq h.hs g.hs S.n i (by omega) (by rw [← h.len]; exact hi)
structure Hq (S : Ins) (T : List Int) (i c : Nat) : Prop where
 hp : Hp S T (i + 1)
 eq : rd T (i : Int) = S.lt i ∨ ∃ k, i < k ∧ k < c ∧ S.D k i = true ∧ rd T (i : Int) = S.dl i k + rd T (k : Int)
 lo : S.lt i ≤ rd T (i : Int)
 up : ∀ k, i < k → k < c → S.D k i = true → S.dl i k + rd T (k : Int) ≤ rd T (i : Int)
theorem Hq.fin {S : Ins} {T : List Int} {i : Nat} (h : Hq S T i S.n) : Hp S T i := by
 refine ⟨h.hp.len, fun j hj hn => ?_, fun j hj hn => ?_, fun j k hj h1 h2 h3 => ?_⟩
 ·by_cases e : j = i
  ·subst e; exact h.eq
  ·exact h.hp.eq j (by omega) hn
 ·by_cases e : j = i
  ·subst e; exact h.lo
  ·exact h.hp.lo j (by omega) hn
 ·by_cases e : j = i
  ·subst e; exact h.up k h1 h2 h3
  ·exact h.hp.up j k (by omega) h1 h2 h3
theorem Hp.set {S : Ins} {T : List Int} {i : Nat} (h : Hp S T (i + 1)) (hi : i < S.n) (v : Int) : Hp S (T.set i v) (i + 1) ∧ (∀ k : Nat, i < k → rd (T.set i v) (k : Int) = rd T (k : Int)) ∧ rd (T.set i v) (i : Int) = v := by
 have hr : ∀ k : Nat, rd (T.set i v) (k : Int) = if k = i then v else rd T (k : Int) := fun k => by
  have := rd_set T (i : Int) v (k : Int) (by omega) (by rw [h.len]; omega) (by omega)
  rw [Int.toNat_natCast] at this
  rw [this]
  by_cases e : k = i
  ·rw [if_pos (by omega), if_pos e]
  ·rw [if_neg (by omega), if_neg e]
 refine ⟨⟨by rw [List.length_set]; exact h.len, fun j hj hn => ?_, fun j hj hn => ?_, fun j k hj h1 h2 h3 => ?_⟩, fun k hk => by rw [hr, if_neg (by omega)], by rw [hr, if_pos rfl]⟩
 ·rw [hr, if_neg (by omega)]
  rcases h.eq j hj hn with h1 | ⟨k, h1, h2, h3, h4⟩
  ·exact .inl h1
  ·exact .inr ⟨k, h1, h2, h3, by rw [hr, if_neg (by omega)]; exact h4⟩
 ·rw [hr, if_neg (by omega)]; exact h.lo j hj hn
 ·rw [hr, hr, if_neg (by omega), if_neg (by omega)]; exact h.up j k hj h1 h2 h3
theorem Hq.start {S : Ins} {T : List Int} {i : Nat} (h : Hp S T (i + 1)) (hi : i < S.n) : Hq S (T.set i (S.lt i)) i (i + 1) := by
 obtain ⟨h1, h2, h3⟩ := h.set hi (S.lt i)
 exact ⟨h1, .inl h3, by rw [h3]; exact Int.le_refl _, fun k hk hc => by omega⟩
theorem Hq.skip {S : Ins} {T : List Int} {i c : Nat} (h : Hq S T i c) (hd : S.D c i = false) : Hq S T i (c + 1) := by
 refine ⟨h.hp, ?_, h.lo, fun k h1 h2 h3 => ?_⟩
 ·rcases h.eq with h1 | ⟨k, h1, h2, h3, h4⟩
  ·exact .inl h1
  ·exact .inr ⟨k, h1, by omega, h3, h4⟩
 ·by_cases e : k = c
  ·subst e; rw [hd] at h3; cases h3
  ·exact h.up k h1 (by omega) h3
theorem mx_or (a b : Int) : (mx a b = a ∧ b ≤ mx a b) ∨ (mx a b = b ∧ a ≤ mx a b) := by unfold mx; split <;> omega
theorem Hq.put {S : Ins} {T : List Int} {i c : Nat} (h : Hq S T i c) (hi : i < c) (hin : i < S.n) (hd : S.D c i = true) : Hq S (T.set i (mx (rd T (i : Int)) (S.dl i c + rd T (c : Int)))) i (c + 1) := by
 have hm := mx_or (rd T (i : Int)) (S.dl i c + rd T (c : Int))
 obtain ⟨v, hv⟩ : ∃ v, mx (rd T (i : Int)) (S.dl i c + rd T (c : Int)) = v := ⟨_, rfl⟩
 rw [hv] at hm ⊢
 obtain ⟨h1, h2, h3⟩ := h.hp.set hin v
 have hlo := h.lo
 refine ⟨h1, ?_, by rw [h3]; omega, fun k h4 h5 h6 => ?_⟩
 ·rw [h3]
  rcases hm with ⟨e, _⟩ | ⟨e, _⟩
  ·rcases h.eq with h4 | ⟨k, h4, h5, h6, h7⟩
   ·exact .inl (by omega)
   ·exact .inr ⟨k, h4, by omega, h6, by rw [h2 k h4]; omega⟩
  ·exact .inr ⟨c, hi, by omega, hd, by rw [h2 c hi]; exact e⟩
 ·rw [h3, h2 k h4]
  by_cases e : k = c
  ·subst e; omega
  ·have := h.up k h4 (by omega) h6
   omega
def pkS (x : Bool) (h : Nat → Int) (k : Nat) : Option Nat → Option Nat
 | none => if x = true then some k else none
 | some j => if x = true ∧ h j < h k then some k else some j
theorem pick_succ (r : Nat → Bool) (h : Nat → Int) (k : Nat) : pick r h (k + 1) = pkS (r k) h k (pick r h k) := by
 rw [pick]
 cases pick r h k <;> rfl
section
variable (W R : Int) (Lat : List Int) (P : List Int) (B : List S48) (t0 : Int) (t1 t2 : List Int) (t3 : List S98) (t4 : Int) (hB : sml B)
include hB
theorem rdelay_f {i k : Nat} (hi : i < B.length) (hk : k < B.length) : Ev (fun q => burnishref52_delay.f q W R Lat P B t0 t1 t2 t3 t4 (i : Int) (k : Int)) ((insS W Lat B).dl i k) := by
 unfold burnishref52_delay.f
 have hu := ruses_f (rd_T48 B (k : Int)).f0 (rd_T48 B (k : Int)).f1 (rd_T48 B (k : Int)).f2 (rd_T48 B (k : Int)).f3 (rd_T48 B (k : Int)).f4 (rd_T48 B (k : Int)).f5 (rd_T48 B (k : Int)).f6 (rd_T48 B (k : Int)).f7 (rd_T48 B (i : Int)).f0 (rd_T48 B (i : Int)).f1 (rd_T48 B (i : Int)).f2 (rd_T48 B (i : Int)).f3 (rd_T48 B (i : Int)).f4 (rd_T48 B (i : Int)).f5 (rd_T48 B (i : Int)).f6 (rd_T48 B (i : Int)).f7 (by have := hB.arg k hk; omega)
 refine Ev.of (fun q => by rw [if_pos (by omega), if_pos (by omega), if_pos (by omega), if_pos (by omega)]) (Ev.bind hu ?_)
 show Ev _ (if usB (rd_T48 B (k : Int)) (rd_T48 B (i : Int)) = true then latI Lat (rd_T48 B (i : Int)).f0 else 0)
 cases h : usB (rd_T48 B (k : Int)) (rd_T48 B (i : Int)) with
 | true => exact Ev.of (fun q => by rw [if_pos rfl, rlat_f, Option.bind_some, if_pos rfl]) (Ev.ret _)
 | false => exact Ev.of (fun q => by rw [if_neg (by simp), if_neg (by simp)]) (Ev.ret _)
variable (hS : Ok (insS W Lat B))
include hS
theorem rh_l1 {i : Nat} (hi : i < B.length) (hnext : ∀ T, Hp (insS W Lat B) T i → ∃ r, Ev (fun q => burnishref52_heights.l0 q (depL B) T ((i : Int) - 1) W R Lat P B t0 t1 t2 t3 t4) r ∧ Hp (insS W Lat B) r 0) :
  ∀ (d c : Nat) (T : List Int), c + d = B.length → i < c → Hq (insS W Lat B) T i c → ∃ r, Ev (fun q => burnishref52_heights.l1 q (depL B) T (i : Int) (c : Int) W R Lat P B t0 t1 t2 t3 t4) r ∧ Hp (insS W Lat B) r 0 := by
 have hl := hB.len
 have hn : (insS W Lat B).n = B.length := rfl
 intro d
 induction d with
 | zero =>
  intro c T hc hic h
  obtain rfl : c = B.length := by omega
  obtain ⟨r, h1, h2⟩ := hnext T h.fin
  refine ⟨r, Ev.suc (fun q => ?_) h1, h2⟩
  show burnishref52_heights.l1 (q + 1) _ _ _ _ _ _ _ _ _ _ _ _ _ _ = _
  rw [burnishref52_heights.l1, if_neg (by rw [h.hp.len, hn]; omega), w64m _ (by omega) (by omega)]
 | succ d ih =>
  intro c T hc hic h
  have hcl : c < B.length := by omega
  have hin := rin_f (depP B c c) (i : Int) (by have := depP_len B c c; omega)
  have hmem : ((i : Int) ∈ depP B c c) ↔ depB (rd_T48 B (c : Int)) (rd_T48 B (i : Int)) = true := by
   rw [mem_depP]
   constructor
   ·rintro ⟨j, h1, h2, h3⟩
    obtain rfl : i = j := by omega
    exact h3
   ·intro h1; exact ⟨i, rfl, hic, h1⟩
  have hbd := h.hp.bd hS (B.length - c) c (by rw [hn]; omega) (by omega) hcl
  have hT := h.hp.len
  rw [hn] at hT
  cases hb : depB (rd_T48 B (c : Int)) (rd_T48 B (i : Int)) with
  | true =>
   obtain ⟨r, h1, h2⟩ := ih (c + 1) _ (by omega) (by omega) (h.put hic hi hb)
   have hdl := hS.dl1 i c
   have hlo := h.lo
   refine ⟨r, Ev.suc (fun q => by show burnishref52_heights.l1 (q + 1) _ _ _ _ _ _ _ _ _ _ _ _ _ _ = _; rw [burnishref52_heights.l1, if_pos (by omega), if_pos (by omega), if_pos (by unfold depL; rw [tb1_len]; omega), rdL_dep hcl]) (Ev.bind hin (Ev.of (fun q => by rw [decide_eq_true (hmem.2 hb), if_pos rfl, if_pos (by omega), if_pos (by omega)]) (Ev.bind (rdelay_f W R Lat P B t0 t1 t2 t3 t4 hB hi hcl) (Ev.of (fun q => ?_) h1)))), h2⟩
   rw [w64m _ (by omega) (by omega), w64 c (by omega), Int.toNat_natCast]
  | false =>
   obtain ⟨r, h1, h2⟩ := ih (c + 1) T (by omega) (by omega) (h.skip hb)
   refine ⟨r, Ev.suc (fun q => by show burnishref52_heights.l1 (q + 1) _ _ _ _ _ _ _ _ _ _ _ _ _ _ = _; rw [burnishref52_heights.l1, if_pos (by omega), if_pos (by omega), if_pos (by unfold depL; rw [tb1_len]; omega), rdL_dep hcl]) (Ev.bind hin (Ev.of (fun q => ?_) h1)), h2⟩
   rw [decide_eq_false (fun h9 => by rw [hmem.1 h9] at hb; cases hb), if_neg (by simp), w64 c (by omega)]
theorem rh_l0 : ∀ (i : Nat) (T : List Int), i ≤ B.length → Hp (insS W Lat B) T i → ∃ r, Ev (fun q => burnishref52_heights.l0 q (depL B) T ((i : Int) - 1) W R Lat P B t0 t1 t2 t3 t4) r ∧ Hp (insS W Lat B) r 0 := by
 have hl := hB.len
 intro i
 induction i with
 | zero =>
  intro T _ h
  exact ⟨T, Ev.fix fun q => by rw [burnishref52_heights.l0, if_neg (by omega)], h⟩
 | succ i ih =>
  intro T hi h
  obtain ⟨r, h1, h2⟩ := rh_l1 W R Lat P B t0 t1 t2 t3 t4 hB hS (i := i) (by omega) (fun T hT => ih T (by omega) hT) (B.length - (i + 1)) (i + 1) _ (by omega) (by omega) (Hq.start h (show i < B.length by omega))
  have hT : T.length = B.length := h.len
  refine ⟨r, Ev.suc (fun q => ?_) h1, h2⟩
  show burnishref52_heights.l0 (q + 1) _ _ _ _ _ _ _ _ _ _ _ _ _ = _
  rw [show ((i + 1 : Nat) : Int) - 1 = (i : Int) by omega, burnishref52_heights.l0, if_pos (by omega), if_pos (by omega), if_pos (by omega), rlat_f, Option.bind_some, if_pos (by omega), w64 i (by omega), Int.toNat_natCast]
  rfl
theorem rh_f : ∃ r, Ev (fun q => burnishref52_heights.f q W R Lat P B t0 t1 t2 t3 t4 (depL B)) r ∧ Hp (insS W Lat B) r 0 := by
 have hl := hB.len
 obtain ⟨r, h1, h2⟩ := rh_l0 W R Lat P B t0 t1 t2 t3 t4 hB hS B.length (List.replicate B.length 0) (Nat.le_refl _) ⟨List.length_replicate, fun i h1 h2 => by have : i < B.length := h2; omega, fun i h1 h2 => by have : i < B.length := h2; omega, fun i k h1 h2 h3 => by have : k < B.length := h3; omega⟩
 refine ⟨r, ?_, h2⟩
 unfold burnishref52_heights.f
 refine Ev.of (fun q => ?_) h1
 rw [if_pos (by omega), if_pos (by omega), Option.bind_some, List.length_replicate, Int.toNat_natCast, w64m _ (by omega) (by omega)]
def pkI : Option Nat → Int
 | none => -1
 | some k => (k : Int)
theorem rn_l1 {T : List Int} (hT : Hp (insS W Lat B) T 0) {t : Nat → Int} {c : Int} (ht : ∀ k, k < B.length → -1 ≤ t k ∧ t k ≤ 1000000) (hc : 0 ≤ c ∧ c ≤ 1000000) {k : Nat} (hk : k < B.length) {r : Int} {b : Option Nat} (hbk : ∀ j, b = some j → j < k)
  (hnext : Ev (fun q => burnishref52_next.l0 q (depL B) T (tbn B.length t) c (pkI (pkS (rdy (insS W Lat B) t c k) (fun i => rd T (i : Int)) k b)) (B.length : Int) ((k + 1 : Nat) : Int) W R Lat P B t0 t1 t2 t3 t4) r) :
  ∀ (d j : Nat) (ok : Bool), j + d = (depP B k k).length → (ok = (decide (t k < 0) && ((depP B k k).take j).all fun i => decide (0 ≤ t i.toNat) && decide (t i.toNat + (insS W Lat B).dl i.toNat k ≤ c))) →
   Ev (fun q => burnishref52_next.l1 q (depL B) T (tbn B.length t) c (pkI b) (k : Int) ok (B.length : Int) (k : Int) (depP B k k) ((depP B k k).length : Int) (j : Int) W R Lat P B t0 t1 t2 t3 t4) r := by
 have hl := hB.len
 have hpl := depP_len B k k
 have hTl : T.length = B.length := hT.len
 intro d
 induction d with
 | zero =>
  intro j ok hj hok
  rw [List.take_of_length_le (by omega)] at hok
  have hrdy : ok = rdy (insS W Lat B) t c k := by
   rw [hok]
   unfold rdy depR depP
   rw [List.all_map]
   rfl
  refine Ev.suc (fun q => ?_) hnext
  show burnishref52_next.l1 (q + 1) _ _ _ _ _ _ _ _ _ _ _ _ _ _ _ _ _ _ _ _ _ _ = _
  rw [burnishref52_next.l1, if_neg (by omega), w64 k (by omega), ← hrdy]
  cases ok with
  | false =>
   rw [if_neg (by simp)]
   cases b with
   | none => rfl
   | some j => show _ = burnishref52_next.l0 q _ _ _ _ (pkI (if false = true ∧ rd T (j : Int) < rd T (k : Int) then some k else some j)) _ _ _ _ _ _ _ _ _ _ _ _; rw [if_neg (fun h => by cases h.1)]
  | true =>
   rw [if_pos rfl]
   cases b with
   | none => rw [if_pos (show pkI none < 0 by show (-1 : Int) < 0; omega)]; rfl
   | some j =>
    have := hbk j rfl
    show (if (j : Int) < 0 then _ else _) = _
    rw [if_neg (by omega), if_pos (by omega), if_pos (by omega)]
    show (if 0 ≤ (j : Int) then _ else _) = _
    rw [if_pos (by omega)]
    show (if (j : Int) < _ then _ else _) = _
    rw [if_pos (by omega)]
    show (if rd T (k : Int) > rd T (j : Int) then _ else _) = _
    show _ = burnishref52_next.l0 q _ _ _ _ (pkI (if true = true ∧ rd T (j : Int) < rd T (k : Int) then some k else some j)) _ _ _ _ _ _ _ _ _ _ _ _
    by_cases h1 : rd T (j : Int) < rd T (k : Int)
    ·rw [if_pos h1, if_pos (⟨rfl, h1⟩ : true = true ∧ rd T (j : Int) < rd T (k : Int))]; rfl
    ·rw [if_neg h1, if_neg (fun h2 => h1 h2.2)]
 | succ d ih =>
  intro j ok hj hok
  have hlt : j < (depP B k k).length := by omega
  obtain ⟨i, hi, hik, hid⟩ := mem_depP.1 (List.getElem_mem hlt)
  have htk : (depP B k k).take (j + 1) = (depP B k k).take j ++ [(depP B k k)[j]] := List.take_succ_eq_append_getElem hlt
  have hti := ht i (by omega)
  have hdl := hS.dl1 i k
  have hat : rd (tbn B.length t) (i : Int) = t i := tbn_rd t (by omega)
  have hstep : ∀ q, burnishref52_next.l1 (q + 1) (depL B) T (tbn B.length t) c (pkI b) (k : Int) ok (B.length : Int) (k : Int) (depP B k k) ((depP B k k).length : Int) (j : Int) W R Lat P B t0 t1 t2 t3 t4 = if ok = true then (if t i ≥ 0 then ((burnishref52_delay.f q W R Lat P B t0 t1 t2 t3 t4 (i : Int) (k : Int)).bind fun t245 => (burnishref52_next.l1 q (depL B) T (tbn B.length t) c (pkI b) (k : Int) (decide ((wrap64 (t i + t245)) ≤ c)) (B.length : Int) (k : Int) (depP B k k) ((depP B k k).length : Int) ((j + 1 : Nat) : Int) W R Lat P B t0 t1 t2 t3 t4)) else (burnishref52_next.l1 q (depL B) T (tbn B.length t) c (pkI b) (k : Int) false (B.length : Int) (k : Int) (depP B k k) ((depP B k k).length : Int) ((j + 1 : Nat) : Int) W R Lat P B t0 t1 t2 t3 t4)) else (burnishref52_next.l1 q (depL B) T (tbn B.length t) c (pkI b) (k : Int) false (B.length : Int) (k : Int) (depP B k k) ((depP B k k).length : Int) ((j + 1 : Nat) : Int) W R Lat P B t0 t1 t2 t3 t4) := by
   intro q
   rw [burnishref52_next.l1, if_pos (by omega), if_pos (by omega), if_pos (by omega), rd_get _ j hlt, hi]
   cases ok with
   | false => rw [if_neg (by simp), if_neg (by simp), w64 j (by omega)]
   | true => rw [if_pos rfl, if_pos rfl, if_pos (by omega), if_pos (by rw [tbn_len]; omega), hat, w64 j (by omega)]
  have hall : ∀ x : Bool, x = (ok && (decide (0 ≤ t i) && decide (t i + (insS W Lat B).dl i k ≤ c))) → Ev (fun q => burnishref52_next.l1 q (depL B) T (tbn B.length t) c (pkI b) (k : Int) x (B.length : Int) (k : Int) (depP B k k) ((depP B k k).length : Int) ((j + 1 : Nat) : Int) W R Lat P B t0 t1 t2 t3 t4) r := fun x hx => ih (j + 1) x (by omega) (by
   rw [hx, hok, htk, List.all_append, List.all_cons, List.all_nil, Bool.and_true, hi, Int.toNat_natCast, Bool.and_assoc])
  cases ok with
  | false => exact Ev.suc (fun q => by rw [hstep, if_neg (by simp)]) (hall false (by simp))
  | true =>
   by_cases h1 : t i ≥ 0
   ·refine Ev.suc (fun q => by rw [hstep, if_pos rfl, if_pos h1]) (Ev.bind (rdelay_f W R Lat P B t0 t1 t2 t3 t4 hB (by omega) hk) ?_)
    refine hall _ ?_
    rw [w64m _ (by omega) (by omega), decide_eq_true (show 0 ≤ t i from h1)]; simp
   ·refine Ev.suc (fun q => by rw [hstep, if_pos rfl, if_neg h1]) (hall false ?_)
    rw [decide_eq_false (show ¬ 0 ≤ t i from h1)]; simp
theorem rn_l0 {T : List Int} (hT : Hp (insS W Lat B) T 0) {t : Nat → Int} {c : Int} (ht : ∀ k, k < B.length → -1 ≤ t k ∧ t k ≤ 1000000) (hc : 0 ≤ c ∧ c ≤ 1000000) : ∀ (d k : Nat), k + d = B.length →
  Ev (fun q => burnishref52_next.l0 q (depL B) T (tbn B.length t) c (pkI (pick (rdy (insS W Lat B) t c) (fun i => rd T (i : Int)) k)) (B.length : Int) (k : Int) W R Lat P B t0 t1 t2 t3 t4) (pkI (pick (rdy (insS W Lat B) t c) (fun i => rd T (i : Int)) B.length)) := by
 have hl := hB.len
 intro d
 induction d with
 | zero =>
  intro k hk
  obtain rfl : k = B.length := by omega
  exact Ev.fix fun q => by rw [burnishref52_next.l0, if_neg (by omega)]
 | succ d ih =>
  intro k hk
  have h1 := ih (k + 1) (by omega)
  rw [pick_succ] at h1
  have hat : rd (tbn B.length t) (k : Int) = t k := tbn_rd t (by omega)
  refine Ev.suc (fun q => ?_) (rn_l1 W R Lat P B t0 t1 t2 t3 t4 hB hS hT ht hc (k := k) (by omega) (b := pick (rdy (insS W Lat B) t c) (fun i => rd T (i : Int)) k) (fun j hj => (pick_mem hj).1) h1 (depP B k k).length 0 (decide (t k < 0)) (Nat.zero_add _) (by simp))
  show burnishref52_next.l0 (q + 1) _ _ _ _ _ _ _ _ _ _ _ _ _ _ _ _ _ = _
  rw [burnishref52_next.l0, if_pos (by omega), if_pos (by omega), if_pos (by rw [tbn_len]; omega), if_pos (by unfold depL; rw [tb1_len]; omega), hat, rdL_dep (by omega)]
  rfl
theorem rn_f {T : List Int} (hT : Hp (insS W Lat B) T 0) {t : Nat → Int} {c : Int} (ht : ∀ k, k < B.length → -1 ≤ t k ∧ t k ≤ 1000000) (hc : 0 ≤ c ∧ c ≤ 1000000) :
  Ev (fun q => burnishref52_next.f q W R Lat P B t0 t1 t2 t3 t4 (depL B) T (tbn B.length t) c) (pkI (pick (rdy (insS W Lat B) t c) (fun i => rd T (i : Int)) B.length)) := by
 have h := rn_l0 W R Lat P B t0 t1 t2 t3 t4 hB hS hT ht hc B.length 0 (Nat.zero_add _)
 unfold burnishref52_next.f
 rw [tbn_len]
 exact h
end
end Go.Proofs.YtjacphcbiaacnaaDoor
end

section
set_option linter.unusedVariables false
set_option linter.unusedSimpArgs false
set_option linter.unusedSectionVars false
namespace Go.Proofs.YtjacphcbiaacnaaDoor
open Go.RowKit Go.Proofs.YtjacphcbiaacnaaDoorW.PrintWords Go.Proofs.YtjacphcbiaacnaaDoor.PDigraphTells Sc
def oL (s : St) : List Int := s.o.map fun (k : Nat) => (k : Int)
theorem oL_len (s : St) : (oL s).length = s.o.length := by simp [oL]
theorem oL_put (s : St) (k : Nat) (c : Int) : oL (s.put k c) = oL s ++ [(k : Int)] := by simp [oL, St.put]
theorem run_uniq {S : Ins} {h : Nat → Int} : ∀ (f g : Nat) (c : Int) (s : St), (run S h f c s).o.length = S.n → (run S h g c s).o.length = S.n → run S h f c s = run S h g c s
 | 0, 0, c, s, _, _ => rfl
 | 0, g + 1, c, s, h1, _ => by
  have h1 : s.o.length = S.n := h1
  rw [run, run, if_neg (by omega)]
 | f + 1, 0, c, s, _, h2 => by
  have h2 : s.o.length = S.n := h2
  rw [run, run, if_neg (by omega)]
 | f + 1, g + 1, c, s, h1, h2 => by
  rw [run] at h1 h2 ⊢
  rw [run]
  split
  ·rename_i h3
   rw [if_pos h3] at h1 h2
   exact run_uniq f g (c + 1) _ h1 h2
  ·rfl
structure Fin (S : Ins) (T : List Int) (s : St) : Prop where
 hp : Hp S T 0
 ex : ∃ f : Nat, f ≤ 102 * S.n + 100 ∧ run S (fun i => rd T (i : Int)) f 0 st0 = s
 all : s.o.length = S.n
theorem Fin.uniq {S : Ins} {T U : List Int} {s t : St} (h : Fin S T s) (g : Fin S U t) : s = t := by
 have := h.hp.uniq g.hp
 subst this
 obtain ⟨f, _, rfl⟩ := h.ex
 obtain ⟨f2, _, rfl⟩ := g.ex
 exact run_uniq f f2 0 st0 h.all g.all
theorem Fin.inv {S : Ins} {T : List Int} {s : St} (h : Fin S T s) : ∃ c, Inv S s c ∧ Wi S.w s.y c 0 := by
 obtain ⟨f, _, rfl⟩ := h.ex
 exact run_inv f 0 st0 (by omega) (inv0 S 0 (by omega)) (wi0 S.w)
def IsB (W R : Int) (Lat : List Int) (B : List S48) (o y : List Int) : Prop := (validB W R Lat = false ∧ o = [] ∧ y = []) ∨ (validB W R Lat = true ∧ ∃ T s, Fin (insS W Lat B) T s ∧ o = oL s ∧ y = s.y)
theorem IsB.uniq {W R : Int} {Lat : List Int} {B : List S48} {o y o' y' : List Int} (h : IsB W R Lat B o y) (g : IsB W R Lat B o' y') : o = o' ∧ y = y' := by
 rcases h with ⟨h1, rfl, rfl⟩ | ⟨h1, T, s, h2, rfl, rfl⟩ <;> rcases g with ⟨g1, rfl, rfl⟩ | ⟨g1, U, t, g2, rfl, rfl⟩
 ·exact ⟨rfl, rfl⟩
 ·rw [h1] at g1; cases g1
 ·rw [h1] at g1; cases g1
 ·have := h2.uniq g2
  subst this
  exact ⟨rfl, rfl⟩
theorem run_bd {S : Ins} {h : Nat → Int} : ∀ (f : Nat) (c : Int) (s : St), 0 ≤ c → Inv S s c → ∃ c', c' ≤ c + f ∧ Inv S (run S h f c s) c'
 | 0, c, s, _, hi => ⟨c, by omega, hi⟩
 | f + 1, c, s, hc, hi => by
  rw [run]
  split
  ·obtain ⟨c', h1, h2⟩ := run_bd f (c + 1) (issue S h c S.w s) (by omega) ((issue_inv hc _ _ hi).later (by omega))
   exact ⟨c', by omega, h2⟩
  ·exact ⟨c, by omega, hi⟩
theorem IsB.bounds {W R : Int} {Lat : List Int} {B : List S48} (hB : B.length ≤ 60) {o y : List Int} (h : IsB W R Lat B o y) : o.length = y.length ∧ o.length ≤ B.length ∧ (∀ j : Nat, j < o.length → (0 ≤ rd o (j : Int) ∧ rd o (j : Int) < B.length) ∧ 0 ≤ rd y (j : Int) ∧ rd y (j : Int) ≤ 100000) := by
 rcases h with ⟨_, rfl, rfl⟩ | ⟨_, T, s, h2, rfl, rfl⟩
 ·exact ⟨rfl, Nat.zero_le _, fun j hj => by simp at hj⟩
 ·obtain ⟨f, hf, hs⟩ := h2.ex
  obtain ⟨c, hc, hi⟩ := run_bd (S := insS W Lat B) (h := fun i => rd T (i : Int)) f 0 st0 (by omega) (inv0 _ 0 (by omega))
  rw [hs] at hi
  have hn : (insS W Lat B).n = B.length := rfl
  have hall := h2.all
  rw [hn] at hall hf
  refine ⟨by rw [oL_len, hi.yl], by rw [oL_len]; omega, fun j hj => ?_⟩
  rw [oL_len] at hj
  have hko := hi.lt s.o[j] (List.getElem_mem hj)
  have e1 : rd (oL s) (j : Int) = (s.o[j] : Int) := by rw [rd_get _ j (by rw [oL_len]; exact hj)]; simp [oL]
  have e2 : rd s.y (j : Int) = s.t s.o[j] := by
   have := hi.yt j hj
   rw [rd_get _ j (by rw [hi.yl]; exact hj)]
   exact (List.getElem?_eq_some_iff.1 this).2
  have h3 := (hi.at_ s.o[j] hko).1 (List.getElem_mem hj)
  have h4 := hi.hi s.o[j] hko
  rw [hn] at hko
  rw [e1, e2]
  omega
def lenF (Lat : List Int) (B : List S48) : List Int → List Int → Int → Int
 | k :: o, c :: y, m => lenF Lat B o y (mx m (c + latI Lat (rd_T48 B k).f0))
 | _, _, m => m
section
variable (W R : Int) (Lat : List Int) (P : List Int) (B : List S48) (t0 : Int) (t1 t2 : List Int) (t3 : List S98) (t4 : Int) (hB : sml B)
include hB
theorem rb_l2 (hS : Ok (insS W Lat B)) (hW : 0 ≤ W ∧ W ≤ 8) {T : List Int} (hT : Hp (insS W Lat B) T 0) {c : Int} (hc : 0 ≤ c ∧ c ≤ 100000) {r : List Int × List Int} : ∀ (m j : Nat) (s : St), j + m = W.toNat → Inv (insS W Lat B) s c →
  Ev (fun q => burnishref52_Block.l1 q (depL B) T (tbn B.length (issue (insS W Lat B) (fun i => rd T (i : Int)) c m s).t) (oL (issue (insS W Lat B) (fun i => rd T (i : Int)) c m s)) (issue (insS W Lat B) (fun i => rd T (i : Int)) c m s).y (c + 1) W R Lat P B t0 t1 t2 t3 t4) r →
  Ev (fun q => burnishref52_Block.l2 q (depL B) T (tbn B.length s.t) (oL s) s.y c (j : Int) W R Lat P B t0 t1 t2 t3 t4) r := by
 have hl := hB.len
 intro m
 induction m with
 | zero =>
  intro j s hj hi h
  refine Ev.suc (fun q => ?_) h
  show burnishref52_Block.l2 (q + 1) _ _ _ _ _ _ _ _ _ _ _ _ _ _ _ _ _ = _
  rw [burnishref52_Block.l2, if_neg (by omega), w64m _ (by omega) (by omega)]
  rfl
 | succ m ih =>
  intro j s hj hi h
  have hn := rn_f W R Lat P B t0 t1 t2 t3 t4 hB hS hT (t := s.t) (c := c) (fun k hk => by
   have h1 := hi.hi k hk
   have h2 := hi.neg k
   omega) (by omega)
  rw [issue] at h
  have hle := hi.le
  have hnn : (insS W Lat B).n = B.length := rfl
  rw [hnn] at hle h
  refine Ev.suc (fun q => by show burnishref52_Block.l2 (q + 1) _ _ _ _ _ _ _ _ _ _ _ _ _ _ _ _ _ = _; rw [burnishref52_Block.l2, if_pos (by omega)]) (Ev.bind hn ?_)
  cases e : pick (rdy (insS W Lat B) s.t c) (fun i => rd T (i : Int)) B.length with
  | none =>
   rw [e] at h
   refine Ev.of (fun q => ?_) h
   rw [if_pos (show pkI none < 0 by show (-1 : Int) < 0; omega), w64m _ (by omega) (by omega)]
  | some k =>
   rw [e] at h
   obtain ⟨hk, hrd⟩ := pick_mem e
   have h2 := ih (j + 1) (s.put k c) (by omega) (hi.put hc.1 hk hrd) h
   refine Ev.of (fun q => ?_) h2
   have hyl := hi.yl
   show (if (k : Int) < 0 then _ else _) = _
   rw [if_neg (by omega)]
   show (if 0 ≤ (k : Int) then _ else _) = _
   rw [if_pos (by omega)]
   show (if (k : Int) < _ then _ else _) = _
   rw [if_pos (by rw [tbn_len]; omega), if_pos (by rw [oL_len]; omega), if_pos (by omega), w64 j (by omega), oL_put]
   show burnishref52_Block.l2 q _ _ ((tbn B.length s.t).set k c) _ _ _ _ _ _ _ _ _ _ _ _ _ _ = _
   rw [tbn_set]
   rfl
theorem rb_l1 (hS : Ok (insS W Lat B)) (hW : 0 ≤ W ∧ W ≤ 8) {T : List Int} (hT : Hp (insS W Lat B) T 0) : ∀ (f : Nat) (c : Int) (s : St), 0 ≤ c → c + f ≤ 100000 → Inv (insS W Lat B) s c → (run (insS W Lat B) (fun i => rd T (i : Int)) f c s).o.length = B.length →
  Ev (fun q => burnishref52_Block.l1 q (depL B) T (tbn B.length s.t) (oL s) s.y c W R Lat P B t0 t1 t2 t3 t4) (oL (run (insS W Lat B) (fun i => rd T (i : Int)) f c s), (run (insS W Lat B) (fun i => rd T (i : Int)) f c s).y) := by
 have hnn : (insS W Lat B).n = B.length := rfl
 intro f
 induction f with
 | zero =>
  intro c s hc hf hi hall
  rw [run] at hall ⊢
  exact Ev.fix fun q => by rw [burnishref52_Block.l1, if_neg (by rw [oL_len, tbn_len]; omega)]
 | succ f ih =>
  intro c s hc hf hi hall
  rw [run, hnn] at hall ⊢
  by_cases h1 : s.o.length < B.length
  ·rw [if_pos h1] at hall ⊢
   have h2 := ih (c + 1) _ (by omega) (by omega) ((issue_inv hc _ _ hi).later (by omega)) hall
   refine Ev.suc (fun q => ?_) (rb_l2 W R Lat P B t0 t1 t2 t3 t4 hB hS hW hT (c := c) (by omega) (insS W Lat B).w 0 s (Nat.zero_add _) hi h2)
   show burnishref52_Block.l1 (q + 1) _ _ _ _ _ _ _ _ _ _ _ _ _ _ _ _ = _
   rw [burnishref52_Block.l1, if_pos (by rw [oL_len, tbn_len]; omega)]
   rfl
  ·rw [if_neg h1] at hall ⊢
   exact Ev.fix fun q => by rw [burnishref52_Block.l1, if_neg (by rw [oL_len, tbn_len]; omega)]
theorem rb_l0 {T : List Int} {r : List Int × List Int} (h : Ev (fun q => burnishref52_Block.l1 q (depL B) T (tbn B.length st0.t) [] [] 0 W R Lat P B t0 t1 t2 t3 t4) r) : ∀ (d i : Nat), i + d = B.length →
  Ev (fun q => burnishref52_Block.l0 q (depL B) T (tbn B.length fun c => if c < i then -1 else 0) (B.length : Int) (i : Int) W R Lat P B t0 t1 t2 t3 t4) r := by
 have hl := hB.len
 intro d
 induction d with
 | zero =>
  intro i hi
  obtain rfl : i = B.length := by omega
  refine Ev.suc (fun q => ?_) h
  show burnishref52_Block.l0 (q + 1) _ _ _ _ _ _ _ _ _ _ _ _ _ _ _ = _
  rw [burnishref52_Block.l0, if_neg (by omega)]
  congr 1
  exact tbn_ext fun c hc => by rw [if_pos hc]; rfl
 | succ d ih =>
  intro i hi
  refine Ev.suc (fun q => ?_) (ih (i + 1) (by omega))
  show burnishref52_Block.l0 (q + 1) _ _ _ _ _ _ _ _ _ _ _ _ _ _ _ = _
  rw [burnishref52_Block.l0, if_pos (by omega), if_pos (by omega), if_pos (by rw [tbn_len]; omega), w64 i (by omega), Int.toNat_natCast, tbn_set]
  congr 1
  refine tbn_ext fun c hc => ?_
  by_cases e1 : c = i
  ·rw [if_pos e1, if_pos (by omega)]
  ·rw [if_neg e1]
   by_cases h1 : c < i
   ·rw [if_pos h1, if_pos (by omega)]
   ·rw [if_neg h1, if_neg (by omega)]
theorem rblock_f (hLl : Lat.length < 1000000000) : ∃ o y, Ev (fun q => burnishref52_Block.f q W R Lat P B t0 t1 t2 t3 t4) (o, y) ∧ IsB W R Lat B o y := by
 have hl := hB.len
 unfold burnishref52_Block.f
 have hv := rvalid_f W R Lat hLl
 cases hvb : validB W R Lat with
 | false =>
  rw [hvb] at hv
  exact ⟨[], [], Ev.bind hv (Ev.of (fun q => by rw [if_neg (by simp)]) (Ev.ret _)), .inl ⟨hvb, rfl, rfl⟩⟩
 | true =>
  rw [hvb] at hv
  have hS := insS_ok (B := B) hvb hl
  have hW := (validB_iff hvb).2.1
  obtain ⟨T, hT, hp⟩ := rh_f W R Lat P B t0 t1 t2 t3 t4 hB hS
  obtain ⟨f, hf, hall⟩ := run_all hS (fun i => rd T (i : Int))
  have hnn : (insS W Lat B).n = B.length := rfl
  have h1 := rb_l1 W R Lat P B t0 t1 t2 t3 t4 hB hS (by omega) hp f 0 st0 (by omega) (by omega) (inv0 _ 0 (by omega)) hall
  have h2 := rb_l0 W R Lat P B t0 t1 t2 t3 t4 hB h1 B.length 0 (Nat.zero_add _)
  refine ⟨_, _, Ev.bind hv (Ev.of (fun q => by rw [if_pos rfl]) (Ev.bind (rdeps_f P B t0 t1 t2 t3 t4 hB) (Ev.bind hT (Ev.of (fun q => ?_) h2)))), .inr ⟨hvb, T, _, ⟨hp, ⟨f, hf, rfl⟩, hall⟩, rfl, rfl⟩⟩
  rw [if_pos (by omega), if_pos (by omega), Option.bind_some]
  rw [show (List.replicate (B.length : Int).toNat (0 : Int)) = tbn B.length (fun c => if c < 0 then -1 else 0) from by
   refine List.ext_getElem (by simp [tbn]) fun j h1 h2 => ?_
   simp [tbn], tbn_len]
  rfl
end
end Go.Proofs.YtjacphcbiaacnaaDoor
end

section
set_option linter.unusedVariables false
set_option linter.unusedSimpArgs false
set_option linter.unusedSectionVars false
namespace Go.Proofs.YtjacphcbiaacnaaDoor
open Go.RowKit Go.Proofs.YtjacphcbiaacnaaDoorW.PrintWords Go.Proofs.YtjacphcbiaacnaaDoor.PDigraphTells Mem Sc
structure Sf (w : World) (p : Nat) (W R : Int) (AL : Option Addr) (cL : Nat) (Lat : List Int) (AI : Option Addr) (cI : Nat) (B : List S48) (AD : Option Addr) (cD : Nat) (AH : Option Addr) (cH : Nat) (T : List Int) (AY : Option Addr) (cY : Nat) (Y : List Int) : Prop where
 g : w.heap[p]? = some (.cells #[.int .i64 W, .int .i64 R, .slice AL Lat.length cL, .slice AI B.length cI, .slice AD B.length cD, .slice AH B.length cH, .slice AY B.length cY] 69 (0, 0))
 L : Kd.C (Kd.int .i64) w AL Lat.length Lat
 hL : Lat.length ≤ cL
 I : Kd.C k48 w AI B.length B
 hI : B.length ≤ cI
 D : Kd.C (Kd.slice 3 (Kd.int .i64)) w AD B.length (depL B)
 hD : B.length ≤ cD
 H : Kd.C (Kd.int .i64) w AH B.length T
 hH : B.length ≤ cH
 Y : Kd.C (Kd.int .i64) w AY B.length Y
 hY : B.length ≤ cY
section
variable {w w' : World} {p : Nat} {W R : Int} {AL : Option Addr} {cL : Nat} {Lat : List Int} {AI : Option Addr} {cI : Nat} {B : List S48} {AD : Option Addr} {cD : Nat} {AH : Option Addr} {cH : Nat} {T : List Int} {AY : Option Addr} {cY : Nat} {Y : List Int}
theorem Sf.below (h : Sf w p W R AL cL Lat AI cI B AD cD AH cH T AY cY Y) (hb : Below w.heap.size w w') : Sf w' p W R AL cL Lat AI cI B AD cD AH cH T AY cY Y :=
 ⟨(hb.block p (blk_lt' h.g)).trans h.g, Kd.C_below h.L hb, h.hL, Kd.C_below h.I hb, h.hI, Kd.C_below h.D hb, h.hD, Kd.C_below h.H hb, h.hH, Kd.C_below h.Y hb, h.hY⟩
theorem Sf.c0 (h : Sf w p W R AL cL Lat AI cI B AD cD AH cH T AY cY Y) : w.cell? ⟨p, 0, none⟩ = some (.int .i64 W) ∧ w.cell? ⟨p, 1, none⟩ = some (.int .i64 R) ∧ w.cell? ⟨p, 2, none⟩ = some (.slice AL Lat.length cL) := ⟨cell_at h.g rfl, cell_at h.g rfl, cell_at h.g rfl⟩
theorem Sf.c3 (h : Sf w p W R AL cL Lat AI cI B AD cD AH cH T AY cY Y) : w.cell? ⟨p, 3, none⟩ = some (.slice AI B.length cI) := cell_at h.g rfl
theorem Sf.c4 (h : Sf w p W R AL cL Lat AI cI B AD cD AH cH T AY cY Y) : w.cell? ⟨p, 4, none⟩ = some (.slice AD B.length cD) := cell_at h.g rfl
theorem Sf.c5 (h : Sf w p W R AL cL Lat AI cI B AD cD AH cH T AY cY Y) : w.cell? ⟨p, 5, none⟩ = some (.slice AH B.length cH) := cell_at h.g rfl
theorem Sf.c6 (h : Sf w p W R AL cL Lat AI cI B AD cD AH cH T AY cY Y) : w.cell? ⟨p, 6, none⟩ = some (.slice AY B.length cY) := cell_at h.g rfl
set_option maxRecDepth 100000 in
set_option maxHeartbeats 2000000 in
theorem delay_any (h : Sf w p W R AL cL Lat AI cI B AD cD AH cH T AY cY Y) (hB : sml B) (i k : Nat) (hi : i < B.length) (hk : k < B.length) :
  Calls Tryd.prog 39 #[.pointer (some ⟨p, 0, none⟩), .int .i64 (i : Int), .int .i64 (k : Int)] w fun e w' => e = .returned (.int .i64 ((insS W Lat B).dl i k)) ∧ Below w.heap.size w w' := by
 obtain ⟨a0, a1, a2⟩ := h.c0
 have a3 := h.c3
 have hi0 : (0 : Int) ≤ (i : Int) := by omega
 have hk0 : (0 : Int) ≤ (k : Int) := by omega
 have hi1 : (i : Int) < (B.length : Int) := by omega
 have hk1 : (k : Int) < (B.length : Int) := by omega
 obtain ⟨ad, A1, c1, eA, x0, x1, x2, x3, x4, x5, x6, x7, hl1, hC1⟩ := at_T48 h.I (k : Int) hk0 hk1
 subst eA
 obtain ⟨ad2, A2, c2, eA, y0, y1, y2, y3, y4, y5, y6, y7, hl2, hC2⟩ := at_T48 h.I (i : Int) hi0 hi1
 injection eA with eA
 subst eA
 rw [Int.toNat_natCast] at x0 x1 x2 x3 x4 x5 x6 x7 y0 y1 y2 y3 y4 y5 y6 y7
 obtain ⟨q, hq⟩ := (uses_f (rd_T48 B (k : Int)).f0 (rd_T48 B (k : Int)).f1 (rd_T48 B (k : Int)).f2 (rd_T48 B (k : Int)).f3 (rd_T48 B (k : Int)).f4 (rd_T48 B (k : Int)).f5 (rd_T48 B (k : Int)).f6 (rd_T48 B (k : Int)).f7 (rd_T48 B (i : Int)).f0 (rd_T48 B (i : Int)).f1 (rd_T48 B (i : Int)).f2 (rd_T48 B (i : Int)).f3 (rd_T48 B (i : Int)).f4 (rd_T48 B (i : Int)).f5 (rd_T48 B (i : Int)).f6 (rd_T48 B (i : Int)).f7 (by have := hB.arg k hk; omega)).get
 have hu := Aside0.mk (fun (w1 : World) (e1 : Below w.heap.size w w1) => sched_uses.calls q (rd_T48 B (k : Int)).f0 (rd_T48 B (k : Int)).f1 (rd_T48 B (k : Int)).f2 A1 c1 (rd_T48 B (k : Int)).f3 (rd_T48 B (k : Int)).f4 (rd_T48 B (k : Int)).f5 (rd_T48 B (k : Int)).f6 (rd_T48 B (k : Int)).f7 (rd_T48 B (i : Int)).f0 (rd_T48 B (i : Int)).f1 (rd_T48 B (i : Int)).f2 A2 c2 (rd_T48 B (i : Int)).f3 (rd_T48 B (i : Int)).f4 (rd_T48 B (i : Int)).f5 (rd_T48 B (i : Int)).f6 (rd_T48 B (i : Int)).f7 _ w1 (Kd.C_below hC1 e1) hl1 (Kd.C_below hC2 e1) hl2 hq)
 have hd : (insS W Lat B).dl i k = if usB (rd_T48 B (k : Int)) (rd_T48 B (i : Int)) = true then latI Lat (rd_T48 B (i : Int)).f0 else 0 := rfl
 obtain ⟨x, hx⟩ : ∃ x, rd_T48 B (k : Int) = x := ⟨_, rfl⟩
 obtain ⟨y, hy⟩ : ∃ y, rd_T48 B (i : Int) = y := ⟨_, rfl⟩
 rw [hx] at x0 x1 x2 x3 x4 x5 x6 x7 hu hd
 rw [hy] at y0 y1 y2 y3 y4 y5 y6 y7 hu hd
 obtain ⟨D, hD⟩ : ∃ D, (insS W Lat B).dl i k = D := ⟨_, rfl⟩
 rw [hD] at hd ⊢
 obtain ⟨u, hu9⟩ : ∃ u, usB x y = u := ⟨_, rfl⟩
 rw [hu9] at hd hu
 clear hD hu9
 replace hd := Aside0.mk hd
 have hL := Aside0.mk (fun (w1 : World) (e1 : Below w.heap.size w w1) => machine_Latency.calls W R AL cL Lat y.f0 _ w1 (Kd.C_below h.L e1) h.hL (lat_f W R Lat y.f0))
 have hs := Aside0.mk h
 have hy2 := hy
 clear h hB hC1 hC2 hq hl1 hl2 hx hy
 go_enter Tryd.func39, Tryd.ntmps39
 go_wp2_with fail
 refine still_tail 14 (by kernel_rfl) (by kernel_rfl) ?_
 simp only [List.take_succ_cons, List.take_zero, List.drop_succ_cons, List.drop_zero]
 repeat still_step
 refine wpStill_nil ?_
 go_wp2_with fail
 refine (hu.out _ (below_drew (Below.refl _ _))).mono ?_
 rintro e' w1 ⟨rfl, B1⟩
 have B1 : Below w.heap.size w w1 := (below_drew (Below.refl _ w)).trans B1
 clear hu a0 a1 a2 a3 x0 x1 x2 x3 x4 x5 x6 x7 y1 y2 y3 y4 y5 y6 y7
 cases u with
 | false =>
  obtain rfl : D = 0 := hd.out
  clear hd
  have hF := Aside0.mk B1
  clear B1
  go_wp2
  go_ret
  exact ⟨rfl, hF.out⟩
 | true =>
  obtain rfl : D = latI Lat y.f0 := hd.out
  clear hd
  have hs1 := hs.out.below B1
  obtain ⟨a0, a1, a2⟩ := hs1.c0
  have a3 := hs1.c3
  obtain ⟨ad2, A2, c2, eA, y0', _, _, _, _, _, _, _, _, _⟩ := at_T48 hs1.I (i : Int) hi0 hi1
  injection eA with eA
  subst eA
  rw [Int.toNat_natCast, hy2] at y0'
  clear y0
  have hB1 := Aside0.mk B1
  clear B1 hs1
  go_wp2_with fail
  refine still_tail 12 (by kernel_rfl) (by kernel_rfl) ?_
  simp only [List.take_succ_cons, List.take_zero, List.drop_succ_cons, List.drop_zero]
  repeat still_step
  refine wpStill_nil ?_
  go_wp2_with fail
  refine (hL.out _ (below_drew hB1.out)).mono ?_
  rintro e' w2 ⟨rfl, B2⟩
  have hF := Aside0.mk ((below_drew hB1.out).trans (B2.mono (below_drew hB1.out).size))
  clear B2
  go_wp2
  go_ret
  exact ⟨rfl, hF.out⟩
end
end Go.Proofs.YtjacphcbiaacnaaDoor
end

section
set_option linter.unusedVariables false
set_option linter.unusedSimpArgs false
set_option linter.unusedSectionVars false
namespace Go.Proofs.YtjacphcbiaacnaaDoor
open Go.RowKit Go.Proofs.YtjacphcbiaacnaaDoorW.PrintWords Go.Proofs.YtjacphcbiaacnaaDoor.PDigraphTells Mem Sc
set_option maxRecDepth 100000 in
set_option maxHeartbeats 4000000 in
theorem ready_any {w : World} {p : Nat} {W R : Int} {AL : Option Addr} {cL : Nat} {Lat : List Int} {AI : Option Addr} {cI : Nat} {B : List S48} {AD : Option Addr} {cD : Nat} {AH : Option Addr} {cH : Nat} {T : List Int} {AY : Option Addr} {cY : Nat} {t : Nat → Int}
    (h : Sf w p W R AL cL Lat AI cI B AD cD AH cH T AY cY (tbn B.length t)) (hB : sml B) (hS : Ok (insS W Lat B)) (ht : ∀ k, k < B.length → -1 ≤ t k ∧ t k ≤ 100000) (k : Nat) (hk : k < B.length) (c : Int) (hc : 0 ≤ c ∧ c ≤ 100000) :
    Calls Tryd.prog 42 #[.pointer (some ⟨p, 0, none⟩), .int .i64 (k : Int), .int .i64 c] w fun e w' => e = .returned (.bool (rdy (insS W Lat B) t c k)) ∧ Below w.heap.size w w' := by
  have hl := hB.len
  have a6 := h.c6
  have a4 := h.c4
  have hk0 : (0 : Int) ≤ (k : Int) := by omega
  have hk1 : (k : Int) < (B.length : Int) := by omega
  obtain ⟨ay, eA, y0⟩ := Kd.at_int h.Y (k : Int) hk0 hk1
  subst eA
  rw [tbn_rd t hk, Int.toNat_natCast] at y0
  obtain ⟨ad, A1, c1, eA, x0, hl1, hC1⟩ := at_L1 h.D (k : Int) hk0 hk1
  subst eA
  rw [rdL_dep hk] at x0 hl1 hC1
  rw [Int.toNat_natCast] at x0
  have hrl := depP_len B k k
  have hmem : ∀ x ∈ depP B k k, ∃ i : Nat, x = (i : Int) ∧ i < k ∧ (insS W Lat B).D k i = true := fun x hx => by
    obtain ⟨i, h1, h2, h3⟩ := mem_depP.1 hx
    exact ⟨i, h1, h2, h3⟩
  have hall : ∀ i : Nat, i < k → (insS W Lat B).D k i = true → (i : Int) ∈ depP B k k := fun i h1 h2 => mem_depP.2 ⟨i, rfl, h1, h2⟩
  obtain ⟨row, hrow⟩ : ∃ row, depP B k k = row := ⟨_, rfl⟩
  rw [hrow] at x0 hl1 hC1 hrl hmem hall
  obtain ⟨rb, hrb⟩ : ∃ b, rdy (insS W Lat B) t c k = b := ⟨_, rfl⟩
  rw [hrb]
  have hX := Aside0.mk (And.intro hrb (And.intro hmem (And.intro hall (And.intro hC1 (And.intro ht (And.intro hS hB))))))
  have hs := Aside0.mk h
  clear h hB hS ht hmem hall hC1 hrow hrb
  go_enter Tryd.func42, Tryd.ntmps42
  by_cases htk : 0 ≤ t k
  · obtain rfl : rb = false := by
      rw [← hX.out.1]
      cases e : rdy (insS W Lat B) t c k with
      | false => rfl
      | true => have := (rdy_iff.1 e).1; omega
    clear hX hs
    go_wp2
    go_ret
    exact ⟨rfl, Below.refl _ _⟩
  have htk2 := Aside0.mk htk
  have d1 : decide (0 ≤ t k) = false := decide_eq_false htk
  clear htk
  go_wp2_with fail
  clear a6 y0 d1 a4 x0
  go_loopg [25] row.length (fun q v wi => ∃ j : Nat, j + q = row.length ∧ v = .int .i64 (j : Int) ∧ Aside0 (Below w.heap.size w wi ∧ ∀ (j' : Nat) (hj : j' < row.length), j' < j → ∀ i : Nat, row[j'] = (i : Int) → 0 ≤ t i ∧ t i + (insS W Lat B).dl i k ≤ c))
  case atStart => exact ⟨0, by omega, rfl, ⟨Below.refl _ _, fun j' _ h1 => by omega⟩⟩
  case round =>
    obtain ⟨j, hj, rfl, hJ⟩ := hrel
    by_cases hlt : j < row.length
    · have hlti : (j : Int) < row.length := by omega
      obtain ⟨gk1, rfl⟩ : ∃ q, gk = q + 1 := ⟨gk - 1, by omega⟩
      have hj1 : j + 1 + gk1 = row.length := by omega
      have hgk : gk1 < gk1 + 1 := by omega
      obtain ⟨i, hri, hik, hid⟩ := hX.out.2.1 row[j] (List.getElem_mem hlt)
      obtain ⟨a1, eA, b0⟩ := Kd.at_int (Kd.C_below hX.out.2.2.2.1 hJ.out.1) (j : Int) (by omega) hlti
      subst eA
      rw [rd_get row j hlt, hri, Int.toNat_natCast] at b0
      have hs1 := Aside0.mk (hs.out.below hJ.out.1)
      have a6 := hs1.out.c6
      have hi0 : (0 : Int) ≤ (i : Int) := by omega
      have hi1 : (i : Int) < (B.length : Int) := by omega
      obtain ⟨ay2, eA, y1⟩ := Kd.at_int hs1.out.Y (i : Int) hi0 hi1
      injection eA with eA
      subst eA
      rw [tbn_rd t (by omega), Int.toNat_natCast] at y1
      have hti := hX.out.2.2.2.2.1 i (by omega)
      have hdl := hX.out.2.2.2.2.2.1.dl1 i k
      obtain ⟨ti, hti2⟩ : ∃ x, t i = x := ⟨_, rfl⟩
      rw [hti2] at y1 hti
      by_cases hneg : ti < 0
      · obtain rfl : rb = false := by
          rw [← hX.out.1]
          cases e : rdy (insS W Lat B) t c k with
          | false => rfl
          | true => have := ((rdy_iff.1 e).2 i hik hid).1; omega
        have d2 : decide (ti < 0) = true := decide_eq_true hneg
        have hF := Aside0.mk hJ.out.1
        clear hJ hX hs hs1 hri hti hdl hti2 hneg
        go_wp2_with fail
        go_quiet (fail)
        go_wp2
        go_ret
        exact ⟨rfl, below_drewN hF.out _⟩
      · have d2 : decide (ti < 0) = false := decide_eq_false hneg
        have hcall := Aside0.mk (fun (W1 : World) (e1 : Below wr.heap.size wr W1) => delay_any (hs1.out.below e1) hX.out.2.2.2.2.2.2 i k (by omega) (by omega))
        obtain ⟨D, hD⟩ : ∃ D, (insS W Lat B).dl i k = D := ⟨_, rfl⟩
        rw [hD] at hcall hdl
        have hsum : wrap64 (ti + D) = ti + D := by unfold wrap64; omega
        have hfin := Aside0.mk (And.intro hri (And.intro hti2 (And.intro hD (show 0 ≤ ti by omega))))
        obtain ⟨sm, hsm⟩ : ∃ sm, ti + D = sm := ⟨_, rfl⟩
        go_wp2_with fail
        go_region_held3 (fun w' => w'.cell? ⟨p, 6, none⟩ = some (.slice (some ay) B.length cY) ∧ w'.cell? (ay.add i) = some (.int .i64 ti)) (first | assumption | exact ⟨a6, y1⟩ | go_keep) (first
          | ((go_at_call 39; with_reducible refine (hcall.out _ ?_).mono ?_)
             · first | exact Below.refl _ _ | exact pw_below_drewN (Below.refl _ _) _
             rintro e' w2 ⟨rfl, Bx⟩
             have Bx : Below wr.heap.size wr w2 := by first | exact Bx | exact (pw_below_drewN (Below.refl _ wr) _).trans Bx
             have f1 : w2.cell? ⟨p, 6, none⟩ = some (.slice (some ay) B.length cY) ∧ w2.cell? (ay.add i) = some (.int .i64 ti) := ⟨(Below.cell Bx (World.block_lt_of_cell? _ _ a6)).trans a6, (Below.cell Bx (World.block_lt_of_cell? _ _ y1)).trans y1⟩
             have H2 := Aside0.mk Bx
             clear Bx))
        have hw : IntKind.i64.wrap (ti + D) = ti + D := (IntKind.wrap_i64 _).trans (by unfold wrap64 at hsum; exact hsum)
        rw [show ti + D = sm from hsm] at hw hsum
        clear f1 a6 y1 b0 d2
        by_cases hgt : c < sm
        · obtain rfl : rb = false := by
            rw [← hX.out.1]
            cases e : rdy (insS W Lat B) t c k with
            | false => rfl
            | true =>
              have h9 := ((rdy_iff.1 e).2 i hik hid).2
              rw [hfin.out.2.1, hfin.out.2.2.1] at h9
              omega
          have d3 : decide (c < sm) = true := decide_eq_true hgt
          have d4 : decide (c < IntKind.i64.wrap (ti + D)) = true := by rw [hsm, hw]; exact d3
          have hF := Aside0.mk (hJ.out.1.trans (H2.out.mono hJ.out.1.size))
          clear hJ hX hs hs1 hfin H2 hcall
          go_wp2_with fail
          go_ret
          exact ⟨rfl, hF.out⟩
        · have d3 : decide (c < sm) = false := decide_eq_false hgt
          have d4 : decide (c < IntKind.i64.wrap (ti + D)) = false := by rw [hsm, hw]; exact d3
          have hI1 : Aside0 (Below w.heap.size w w2 ∧ ∀ (j' : Nat) (hj : j' < row.length), j' < j + 1 → ∀ i : Nat, row[j'] = (i : Int) → 0 ≤ t i ∧ t i + (insS W Lat B).dl i k ≤ c) := by
            refine ⟨hJ.out.1.trans (H2.out.mono hJ.out.1.size), fun j' hj' h1 i' hi' => ?_⟩
            by_cases e : j' = j
            · subst e
              obtain rfl : i = i' := by have := hfin.out.1; omega
              rw [hfin.out.2.1, hfin.out.2.2.1]
              have := hfin.out.2.2.2
              omega
            · exact hJ.out.2 j' hj' (by omega) i' hi'
          clear hJ hs hs1 hfin H2 hcall
          go_wp2_with fail
          go_roundg gk1
          case rel => exact ⟨j + 1, hj1, by go_num, hI1⟩
          case measure => exact hgk
    · obtain rfl : rb = true := by
        rw [← hX.out.1]
        refine rdy_iff.2 ⟨by have := htk2.out; omega, fun i h1 h2 => ?_⟩
        obtain ⟨j', hj', e⟩ := List.getElem_of_mem (hX.out.2.2.1 i h1 h2)
        exact hJ.out.2 j' hj' (by omega) i e
      have hF := Aside0.mk hJ.out.1
      clear hJ hX hs
      go_wp2
      go_ret
      exact ⟨rfl, hF.out⟩
end Go.Proofs.YtjacphcbiaacnaaDoor
end

section
set_option linter.unusedVariables false
set_option linter.unusedSimpArgs false
set_option linter.unusedSectionVars false
namespace Go.Proofs.YtjacphcbiaacnaaDoor
open Go.RowKit Go.Proofs.YtjacphcbiaacnaaDoorW.PrintWords Go.Proofs.YtjacphcbiaacnaaDoor.PDigraphTells Mem Sc
def DN (w : World) : Prop := w.cell? ⟨0, 0, none⟩ = some (.int .i64 (-1)) ∧ w.cell? ⟨0, 1, none⟩ = some (.int .i64 (-1))
theorem DN.pos {w : World} (h : DN w) : 0 < w.heap.size := World.block_lt_of_cell? w ⟨0, 0, none⟩ h.1
theorem DN.below {w W : World} {n : Nat} (h : DN w) (hb : Below n w W) (hn : 0 < n) : DN W := ⟨(hb.cell (p := ⟨0, 0, none⟩) hn).trans h.1, (hb.cell (p := ⟨0, 1, none⟩) hn).trans h.2⟩
set_option maxRecDepth 100000 in
theorem clo_any {w : World} {bs bc p : Nat} {k c : Int} {b : Bool} (c1 : w.cell? ⟨bs, 0, none⟩ = some (.pointer (some ⟨p, 0, none⟩))) (c2 : w.cell? ⟨bc, 0, none⟩ = some (.int .i64 c))
  (hr : Calls Tryd.prog 42 #[.pointer (some ⟨p, 0, none⟩), .int .i64 k, .int .i64 c] w fun e w' => e = .returned (.bool b) ∧ Below w.heap.size w w') :
  Calls Tryd.prog 41 #[.int .i64 k, .pointer (some ⟨bs, 0, none⟩), .pointer (some ⟨bc, 0, none⟩)] w fun e w' => e = .returned (.bool b) ∧ Below w.heap.size w w' := by
 replace hr := Aside0.mk hr
 go_enter Tryd.func41, Tryd.ntmps41
 go_wp2_with fail
 refine hr.out.mono ?_
 rintro e' w2 ⟨rfl, B2⟩
 have hF := Aside0.mk B2
 clear B2
 go_wp2
 go_ret
 exact ⟨rfl, hF.out⟩
def ouV (T : List Int) : Option Nat → Int × Int
 | none => (-1, -1)
 | some k => (rd T (k : Int), (k : Int))
set_option maxRecDepth 100000 in
set_option maxHeartbeats 4000000 in
theorem best_any {w : World} {bs bc p : Nat} {W R : Int} {AL : Option Addr} {cL : Nat} {Lat : List Int} {AI : Option Addr} {cI : Nat} {B : List S48} {AD : Option Addr} {cD : Nat} {AH : Option Addr} {cH : Nat} {T : List Int} {AY : Option Addr} {cY : Nat} {t : Nat → Int} {c : Int}
  (h : Sf w p W R AL cL Lat AI cI B AD cD AH cH T AY cY (tbn B.length t)) (hB : sml B) (hS : Ok (insS W Lat B)) (ht : ∀ k, k < B.length → -1 ≤ t k ∧ t k ≤ 100000) (hc : 0 ≤ c ∧ c ≤ 100000) (hT : Hp (insS W Lat B) T 0) (hN : DN w)
  (c1 : w.cell? ⟨bs, 0, none⟩ = some (.pointer (some ⟨p, 0, none⟩))) (c2 : w.cell? ⟨bc, 0, none⟩ = some (.int .i64 c)) :
  Calls Tryd.prog 40 #[.pointer (some ⟨p, 0, none⟩), .func (.func 41) #[] #[.pointer (some ⟨bs, 0, none⟩), .pointer (some ⟨bc, 0, none⟩)]] w fun e w' =>
   e = .returned (.agg #[.int .i64 (ouV T (pick (rdy (insS W Lat B) t c) (fun i => rd T (i : Int)) B.length)).1, .int .i64 (ouV T (pick (rdy (insS W Lat B) t c) (fun i => rd T (i : Int)) B.length)).2]) ∧ Below w.heap.size w w' := by
 obtain ⟨ou, hou⟩ : ∃ x, ouV T (pick (rdy (insS W Lat B) t c) (fun i => rd T (i : Int)) B.length) = x := ⟨_, rfl⟩
 rw [hou]
 replace hou := Aside0.mk hou
 have hX := Aside0.mk (And.intro h (And.intro hB (And.intro hS (And.intro ht (And.intro hc (And.intro hT (And.intro hN (And.intro c1 c2))))))))
 have n1 := hN.1
 have n2 := hN.2
 have a3 := h.c3
 have hl := hB.len
 have hp0 := hN.pos
 obtain ⟨g1, hg1⟩ : ∃ g1, g1 = w.heap.size + 1 := ⟨_, rfl⟩
 obtain ⟨w2, hw2⟩ : ∃ w2, w2 = (w.alloc (.cells #[.int .i64 0, .int .i64 0] 79 (0, 0))).alloc (.cells #[.int .i64 (-1), .int .i64 (-1)] 79 (0, 0)) := ⟨_, rfl⟩
 have B2 : Below w.heap.size w w2 := by rw [hw2]; exact below_alloc (below_alloc (Below.refl _ w) _) _
 have b1 : w2.heap[g1]? = some (.cells #[.int .i64 (-1), .int .i64 (-1)] 79 (0, 0)) := by
  rw [hw2, hg1]
  have := heap_alloc_new (w.alloc (.cells #[.int .i64 0, .int .i64 0] 79 (0, 0))) (.cells #[.int .i64 (-1), .int .i64 (-1)] 79 (0, 0))
  simpa using this
 have b0 : w2.heap[w.heap.size]? = some (.cells #[.int .i64 0, .int .i64 0] 79 (0, 0)) := by
  rw [hw2, Below.heap_alloc _ _ _ (by simp)]
  exact heap_alloc_new w _
 have a3' := (h.below B2).c3
 rw [hw2] at a3'
 clear h hB hS ht hc hT hN c1 c2
 go_enter Tryd.func40, Tryd.ntmps40
 go_wp2_with fail
 clear a3' a3 n1 n2
 rw [← hw2, ← hg1]
 have hgw := Aside0.mk (show w.heap.size ≤ g1 ∧ w.heap.size ≠ g1 by omega)
 clear hg1
 have hI0 : Aside0 (Below w.heap.size w w2 ∧ w2.heap[g1]? = some (.cells #[.int .i64 (ouV T (pick (rdy (insS W Lat B) t c) (fun i => rd T (i : Int)) 0)).1, .int .i64 (ouV T (pick (rdy (insS W Lat B) t c) (fun i => rd T (i : Int)) 0)).2] 79 (0, 0)) ∧ w2.heap[w.heap.size]? = some (.cells #[.int .i64 0, .int .i64 0] 79 (0, 0))) := ⟨B2, b1, b0⟩
 clear B2 b1 b0 hw2
 go_loopg [14] B.length (fun q v wi => ∃ k : Nat, k + q = B.length ∧ v = .int .i64 (k : Int) ∧ Aside0 (Below w.heap.size w wi ∧ wi.heap[g1]? = some (.cells #[.int .i64 (ouV T (pick (rdy (insS W Lat B) t c) (fun i => rd T (i : Int)) k)).1, .int .i64 (ouV T (pick (rdy (insS W Lat B) t c) (fun i => rd T (i : Int)) k)).2] 79 (0, 0)) ∧ wi.heap[w.heap.size]? = some (.cells #[.int .i64 0, .int .i64 0] 79 (0, 0))))
 case atStart => exact ⟨0, by omega, rfl, hI0⟩
 case round =>
  obtain ⟨k, hk, rfl, hJ⟩ := hrel
  clear hI0
  by_cases hlt : k < B.length
  ·have hlti : (k : Int) < (B.length : Int) := by omega
   have hk0 : (0 : Int) ≤ (k : Int) := by omega
   obtain ⟨gk1, rfl⟩ : ∃ q, gk = q + 1 := ⟨gk - 1, by omega⟩
   have hk1 : k + 1 + gk1 = B.length := by omega
   have hgk : gk1 < gk1 + 1 := by omega
   have hsf := Aside0.mk (hX.out.1.below hJ.out.1)
   have a5 := hsf.out.c5
   obtain ⟨ah, eA, y0⟩ := Kd.at_int hsf.out.H (k : Int) hk0 hlti
   subst eA
   rw [Int.toNat_natCast] at y0
   obtain ⟨hk9, hhk⟩ : ∃ x, rd T (k : Int) = x := ⟨_, rfl⟩
   rw [hhk] at y0
   obtain ⟨w3, hw3⟩ : ∃ w3, w3 = wr.alloc (.cells #[.int .i64 hk9, .int .i64 (k : Int)] 79 (0, 0)) := ⟨_, rfl⟩
   have hp : pick (rdy (insS W Lat B) t c) (fun i => rd T (i : Int)) (k + 1) = _ := pick_succ _ _ _
   have B3 : Below w.heap.size w w3 := by rw [hw3]; exact below_alloc hJ.out.1 _
   obtain ⟨g2, hg2⟩ : ∃ g2, g2 = wr.heap.size := ⟨_, rfl⟩
   have z2 : w3.heap[g2]? = some (.cells #[.int .i64 hk9, .int .i64 (k : Int)] 79 (0, 0)) := by rw [hw3, hg2]; exact heap_alloc_new wr _
   have z1 := hJ.out.2.1
   have z0 := hJ.out.2.2
   have z1' : w3.heap[g1]? = wr.heap[g1]? := by rw [hw3]; exact Below.heap_alloc _ _ _ (blk_lt' z1)
   have z0' : w3.heap[w.heap.size]? = wr.heap[w.heap.size]? := by rw [hw3]; exact Below.heap_alloc _ _ _ (blk_lt' z0)
   rw [← z1'] at z1
   rw [← z0'] at z0
   have hb12 : g1 < wr.heap.size := blk_lt' hJ.out.2.1
   have H3 := Aside0.mk (And.intro B3 (And.intro z2 (And.intro z1 (And.intro z0 (show g1 < g2 by omega)))))
   have hcall := Aside0.mk (clo_any (b := rdy (insS W Lat B) t c k) ((B3.cell (World.block_lt_of_cell? _ _ hX.out.2.2.2.2.2.2.2.1)).trans hX.out.2.2.2.2.2.2.2.1) ((B3.cell (World.block_lt_of_cell? _ _ hX.out.2.2.2.2.2.2.2.2)).trans hX.out.2.2.2.2.2.2.2.2) (ready_any (hX.out.1.below B3) hX.out.2.1 hX.out.2.2.1 hX.out.2.2.2.1 k hlt c hX.out.2.2.2.2.1))
   have hTk := hX.out.2.2.2.2.2.1.bd hX.out.2.2.1 (B.length - k) k (by show k + (B.length - k) = B.length; omega) (Nat.zero_le _) hlt
   rw [hhk] at hTk
   clear B3 z2 z1 z0 z1' z0' hb12
   go_wp2_with fail
   rw [← hw3, ← hg2]
   clear a5 y0 hw3 hg2
   go_at_call 41
   refine hcall.out.mono ?_
   rintro e' w4 ⟨rfl, B4⟩
   have hb4 : w3.heap.size ≤ w4.heap.size := B4.size
   have z2 := (B4.block g2 (blk_lt' H3.out.2.1)).trans H3.out.2.1
   have z1 := (B4.block g1 (blk_lt' H3.out.2.2.1)).trans H3.out.2.2.1
   have z0 := (B4.block w.heap.size (blk_lt' H3.out.2.2.2.1)).trans H3.out.2.2.2.1
   have B5 : Below w.heap.size w w4 := H3.out.1.trans (B4.mono H3.out.1.size)
   have hg12 := H3.out.2.2.2.2
   clear hcall B4
   obtain ⟨rk, hrk⟩ : ∃ b, rdy (insS W Lat B) t c k = b := ⟨_, rfl⟩
   rw [hrk] at hp ⊢
   obtain ⟨pb, hpb⟩ : ∃ x, pick (rdy (insS W Lat B) t c) (fun i => rd T (i : Int)) k = x := ⟨_, rfl⟩
   rw [hpb] at hp z1
   cases rk with
   | false =>
    have e1 : pkS false (fun i => rd T (i : Int)) k pb = pb := by cases pb <;> rfl
    rw [e1] at hp
    have hI1 : Aside0 (Below w.heap.size w w4 ∧ w4.heap[g1]? = some (.cells #[.int .i64 (ouV T (pick (rdy (insS W Lat B) t c) (fun i => rd T (i : Int)) (k + 1))).1, .int .i64 (ouV T (pick (rdy (insS W Lat B) t c) (fun i => rd T (i : Int)) (k + 1))).2] 79 (0, 0)) ∧ w4.heap[w.heap.size]? = some (.cells #[.int .i64 0, .int .i64 0] 79 (0, 0))) := ⟨B5, by rw [hp]; exact z1, z0⟩
    clear hp z1 z0 z2 B5 H3 hJ hsf hrk hpb e1 hhk hTk hb4 hg12
    go_wp2_with fail
    go_roundg gk1
    case rel => exact ⟨k + 1, hk1, by go_num, hI1⟩
    case measure => exact hgk
   | true =>
    have hDN := hX.out.2.2.2.2.2.2.1.below B5 hp0
    have n1 := hDN.1
    have n2 := hDN.2
    have f1 := cell_at z1 (j := 0) rfl
    have f2 := cell_at z1 (j := 1) rfl
    have f3 := cell_at z2 (j := 0) rfl
    have f4 := cell_at z2 (j := 1) rfl
    have fr1 := free_at z1 0
    have fr2 := free_at z1 1
    cases pb with
    | none =>
     have e1 : pkS true (fun i => rd T (i : Int)) k none = some k := rfl
     rw [e1] at hp
     rw [show (ouV T none).1 = -1 from rfl] at f1
     rw [show (ouV T none).2 = -1 from rfl] at f2
     have s1 := set_at (j := 1) (set_at (j := 0) z1 (.int .i64 hk9)) (.int .i64 (k : Int))
     have hI1 : Aside0 (Below w.heap.size w ((w4.setCell ⟨g1, 0, none⟩ (.int .i64 hk9)).setCell ⟨g1, 1, none⟩ (.int .i64 (k : Int))) ∧ ((w4.setCell ⟨g1, 0, none⟩ (.int .i64 hk9)).setCell ⟨g1, 1, none⟩ (.int .i64 (k : Int))).heap[g1]? = some (.cells #[.int .i64 (ouV T (pick (rdy (insS W Lat B) t c) (fun i => rd T (i : Int)) (k + 1))).1, .int .i64 (ouV T (pick (rdy (insS W Lat B) t c) (fun i => rd T (i : Int)) (k + 1))).2] 79 (0, 0)) ∧ ((w4.setCell ⟨g1, 0, none⟩ (.int .i64 hk9)).setCell ⟨g1, 1, none⟩ (.int .i64 (k : Int))).heap[w.heap.size]? = some (.cells #[.int .i64 0, .int .i64 0] 79 (0, 0))) := by
      refine ⟨(B5.setCell (p := ⟨g1, 0, none⟩) hgw.out.1 _).setCell (p := ⟨g1, 1, none⟩) hgw.out.1 _, ?_, ?_⟩
      ·rw [s1, hp, ← hhk]; rfl
      ·rw [Below.heap_setCell _ _ _ _ hgw.out.2, Below.heap_setCell _ _ _ _ hgw.out.2]; exact z0
     clear hp z1 z0 z2 B5 H3 hJ hsf hrk hpb e1 hhk hTk hb4 s1 hg12
     go_wp2_with fail
     go_roundg gk1
     case rel => exact ⟨k + 1, hk1, by go_num, hI1⟩
     case measure => exact hgk
    | some j =>
     have hj := (pick_mem hpb).1
     have hTj := hX.out.2.2.2.2.2.1.bd hX.out.2.2.1 (B.length - j) j (by show j + (B.length - j) = B.length; omega) (Nat.zero_le _) (by show j < B.length; omega)
     obtain ⟨hj9, hhj⟩ : ∃ x, rd T (j : Int) = x := ⟨_, rfl⟩
     rw [hhj] at hTj
     rw [show (ouV T (some j)).1 = hj9 from hhj] at f1
     rw [show (ouV T (some j)).2 = (j : Int) from rfl] at f2
     have d1 : (hj9 == -1) = false := by rw [beq_eq_false_iff_ne]; omega
     by_cases hgt : hj9 < hk9
     ·have e1 : pkS true (fun i => rd T (i : Int)) k (some j) = some k := by unfold pkS; simp only [hhk, hhj]; rw [if_pos (by simpa using hgt)]
      rw [e1] at hp
      have d2 : decide (hj9 < hk9) = true := decide_eq_true hgt
      have s1 := set_at (j := 1) (set_at (j := 0) z1 (.int .i64 hk9)) (.int .i64 (k : Int))
      have hI1 : Aside0 (Below w.heap.size w ((w4.setCell ⟨g1, 0, none⟩ (.int .i64 hk9)).setCell ⟨g1, 1, none⟩ (.int .i64 (k : Int))) ∧ ((w4.setCell ⟨g1, 0, none⟩ (.int .i64 hk9)).setCell ⟨g1, 1, none⟩ (.int .i64 (k : Int))).heap[g1]? = some (.cells #[.int .i64 (ouV T (pick (rdy (insS W Lat B) t c) (fun i => rd T (i : Int)) (k + 1))).1, .int .i64 (ouV T (pick (rdy (insS W Lat B) t c) (fun i => rd T (i : Int)) (k + 1))).2] 79 (0, 0)) ∧ ((w4.setCell ⟨g1, 0, none⟩ (.int .i64 hk9)).setCell ⟨g1, 1, none⟩ (.int .i64 (k : Int))).heap[w.heap.size]? = some (.cells #[.int .i64 0, .int .i64 0] 79 (0, 0))) := by
       refine ⟨(B5.setCell (p := ⟨g1, 0, none⟩) hgw.out.1 _).setCell (p := ⟨g1, 1, none⟩) hgw.out.1 _, ?_, ?_⟩
       ·rw [s1, hp, ← hhk]; rfl
       ·rw [Below.heap_setCell _ _ _ _ hgw.out.2, Below.heap_setCell _ _ _ _ hgw.out.2]; exact z0
      clear hp z1 z0 z2 B5 H3 hJ hsf hrk hpb e1 hhk hTk hb4 s1 hj hTj hhj hg12
      go_wp2_with fail
      go_roundg gk1
      case rel => exact ⟨k + 1, hk1, by go_num, hI1⟩
      case measure => exact hgk
     ·have e1 : pkS true (fun i => rd T (i : Int)) k (some j) = some j := by unfold pkS; simp only [hhk, hhj]; rw [if_neg (by simpa using hgt)]
      rw [e1] at hp
      have d2 : decide (hj9 < hk9) = false := decide_eq_false hgt
      have hI1 : Aside0 (Below w.heap.size w w4 ∧ w4.heap[g1]? = some (.cells #[.int .i64 (ouV T (pick (rdy (insS W Lat B) t c) (fun i => rd T (i : Int)) (k + 1))).1, .int .i64 (ouV T (pick (rdy (insS W Lat B) t c) (fun i => rd T (i : Int)) (k + 1))).2] 79 (0, 0)) ∧ w4.heap[w.heap.size]? = some (.cells #[.int .i64 0, .int .i64 0] 79 (0, 0))) := ⟨B5, by rw [hp]; exact z1, z0⟩
      clear hp z1 z0 z2 B5 H3 hJ hsf hrk hpb e1 hhk hTk hb4 hj hTj hhj hg12
      go_wp2_with fail
      go_roundg gk1
      case rel => exact ⟨k + 1, hk1, by go_num, hI1⟩
      case measure => exact hgk
  ·obtain rfl : k = B.length := by omega
   have z1 := hJ.out.2.1
   have z0 := hJ.out.2.2
   have B1 := hJ.out.1
   rw [hou.out] at z1
   have f1 := cell_at z1 (j := 0) rfl
   have f2 := cell_at z1 (j := 1) rfl
   have fr1 := free_at z0 0
   have fr2 := free_at z0 1
   have k0 := cell_at z0 (j := 0) rfl
   have k1 := cell_at z0 (j := 1) rfl
   have hF := Aside0.mk ((B1.setCell (p := ⟨w.heap.size, 0, none⟩) (Nat.le_refl _) (.int .i64 ou.1)).setCell (p := ⟨w.heap.size, 1, none⟩) (Nat.le_refl _) (.int .i64 ou.2))
   have s0 := set_at (j := 1) (set_at (j := 0) z0 (.int .i64 ou.1)) (.int .i64 ou.2)
   have q0 : ((wr.setCell ⟨w.heap.size, 0, none⟩ (.int .i64 ou.1)).setCell ⟨w.heap.size, 1, none⟩ (.int .i64 ou.2)).cell? ⟨w.heap.size, 0, none⟩ = some (.int .i64 ou.1) := cell_at s0 rfl
   have q1 : ((wr.setCell ⟨w.heap.size, 0, none⟩ (.int .i64 ou.1)).setCell ⟨w.heap.size, 1, none⟩ (.int .i64 ou.2)).cell? ⟨w.heap.size, 1, none⟩ = some (.int .i64 ou.2) := cell_at s0 rfl
   clear hJ hX z1 z0 B1 s0 hou
   go_wp2_with fail
   exact bodyPost_ret (v := .agg #[.int .i64 ou.1, .int .i64 ou.2]) (by simp [results, Tryd.results40, go_sem, q0, q1]) rfl ⟨rfl, hF.out⟩
end Go.Proofs.YtjacphcbiaacnaaDoor
end

