/- outofssa.order. -/
import Derived.Test.YtlmendmncfibfaaSeqF
import Derived.Deep.LoopGhost
import Derived.WalkMore
set_option linter.unusedVariables false
set_option linter.unusedSimpArgs false
namespace Go.Proofs.Ytlmendmncfibfaa
open Go.RowKit Go.Proofs.YtlmendmncfibfaaW.PrintWords Go.Proofs.Ytlmendmncfibfaa.POutofssaSequentializes Mem

structure OI (w wr : World) (B : Nat) (t : Int) (vp vo : Value) (pd o : List S50) (n : Nat) (res : List S50) : Prop where
  rp : Kd.R k50 50 wr 0 (fun k => w.heap.size ≤ k ∧ k < B) vp pd
  ro : Kd.R k50 50 wr 0 (fun k => B ≤ k) vo o
  below : Below w.heap.size w wr
  hB : B ≤ wr.heap.size
  hw : w.heap.size ≤ B
  eq : fin t n pd o = res
  mu : mu pd ≤ n
  ht : ∀ q ∈ pd, q.f0 ≠ t
  len : pd.length ≤ 1000
  olen : o.length + n ≤ 10000
theorem OI.step {w wr W : World} {B : Nat} {t : Int} {vp vo : Value} {pd o res : List S50} {n : Nat} (h : OI w wr B t vp vo pd o n res) (hb : Below wr.heap.size wr W) : OI w W B t vp vo pd o n res :=
  ⟨Kd.R_step h.rp (fun k _ hk => hb.block k hk), Kd.R_step h.ro (fun k _ hk => hb.block k hk), h.below.trans (hb.mono h.below.size), Nat.le_trans h.hB hb.size, h.hw, h.eq, h.mu, h.ht, h.len, h.olen⟩

/-- Behind an append to out. -/
structure OM (w wr : World) (B : Nat) (vp vo : Value) (pd o : List S50) : Prop where
  rp : Kd.R k50 50 wr 0 (fun k => w.heap.size ≤ k ∧ k < B) vp pd
  ro : Kd.R k50 50 wr 0 (fun k => B ≤ k) vo o
  below : Below w.heap.size w wr
  hB : B ≤ wr.heap.size
theorem OI.app {w wr wa : World} {B : Nat} {t : Int} {vp vo v1 : Value} {pd o res : List S50} {n : Nat} {x : S50} (h : OI w wr B t vp vo pd o n res) (hR : Kd.R k50 50 wa 0 (fun k => B ≤ k) v1 (o ++ [x])) (hg : wr.grownBy wa vo.ownBlock) : OM w wa B vp v1 pd (o ++ [x]) := by
  have hk : Kp (fun k => B ≤ k) wr wa := (Kp.refl _ wr).grown hg (fun k hk => .inl (h.ro.1 k hk))
  exact ⟨Kd.R_step h.rp (fun k hk hlt => hk |> fun _ => hg.block k hlt (fun e => by have := h.ro.1 k e.symm; omega)), hR, h.below.trans (hk.belowB (fun k hk => Nat.le_trans h.hw hk) h.below.size), Nat.le_trans h.hB hk.size⟩
/-- The sources replaced so far. -/
def reps (t a : Int) (pd : List S50) (i : Nat) : List S50 := (pd.take i).map (rep t a) ++ pd.drop i
theorem reps_len (t a : Int) (pd : List S50) (i : Nat) : (reps t a pd i).length = pd.length := by
  unfold reps; rw [List.length_append, List.length_map, List.length_take, List.length_drop]; omega
theorem reps_get (t a : Int) (pd : List S50) (i : Nat) (h : i < pd.length) : (reps t a pd i)[i]'(by rw [reps_len]; exact h) = pd[i] := by
  have : (reps t a pd i)[i]? = some pd[i] := by
    unfold reps
    rw [List.getElem?_append_right (by rw [List.length_map, List.length_take]; omega), List.getElem?_drop]
    simp only [List.length_map, List.length_take]
    rw [show i + (i - min i pd.length) = i by omega, List.getElem?_eq_getElem h]
  exact (List.getElem?_eq_some_iff.1 this).2
theorem reps_hit (t a : Int) (pd : List S50) (i : Nat) (h : i < pd.length) (he : pd[i].f1 = a) : (reps t a pd i).set i ⟨pd[i].f0, t⟩ = reps t a pd (i + 1) := by
  unfold reps
  have e1 : ((pd.take i).map (rep t a)).length = i := by rw [List.length_map, List.length_take]; omega
  rw [List.set_append_right _ _ (by omega), e1, Nat.sub_self, List.drop_eq_getElem_cons h, List.set_cons_zero, List.take_succ_eq_append_getElem h, List.map_append, List.append_assoc]
  have : rep t a pd[i] = ⟨pd[i].f0, t⟩ := by unfold rep; rw [if_pos he]
  simp [this]
theorem reps_miss (t a : Int) (pd : List S50) (i : Nat) (h : i < pd.length) (he : pd[i].f1 ≠ a) : reps t a pd i = reps t a pd (i + 1) := by
  unfold reps
  rw [List.drop_eq_getElem_cons h, List.take_succ_eq_append_getElem h, List.map_append, List.append_assoc]
  have : rep t a pd[i] = pd[i] := by unfold rep; rw [if_neg he]
  simp [this]
theorem R_set1 {w : World} {ok : Nat → Prop} {g n cap : Nat} {xs : List S50} (h : Kd.R k50 50 w 0 ok (.slice (some ⟨g, 0, none⟩) n cap) xs) (i : Nat) (hi : i < xs.length) (t : Int) :
    Kd.R k50 50 (w.setCell ⟨g, i * 2 + 1, none⟩ (.int .i64 t)) 0 ok (.slice (some ⟨g, 0, none⟩) n cap) (xs.set i ⟨xs[i].f0, t⟩) ∧ Kp ok w (w.setCell ⟨g, i * 2 + 1, none⟩ (.int .i64 t)) := by
  obtain ⟨hn, _, hC⟩ := Kd.R_reads' h
  obtain ⟨h1', h2', _, _⟩ := R_at50 h i hi
  have := Kd.R_seg h (i : Int) (by omega) (by omega) (c := [.int .i64 (xs[i]).f0, .int .i64 (xs[i]).f1]) (seg := [.int .i64 t]) (j := 1) (x' := ⟨xs[i].f0, t⟩) (okp := fun _ => False) rfl (fun j u hj => by
    rw [Int.toNat_natCast, show k50.sz = 2 from rfl]
    rcases j with _ | _ | j
    · simp at hj; rw [← hj]; exact h1'
    · simp at hj; rw [← hj]; exact h2'
    · simp at hj) (by show 1 + 1 ≤ 2; omega) (k50_mkM _ _ _ ⟨xs[i].f0, t⟩) (fun _ h => h.elim)
  rw [Int.toNat_natCast, show k50.sz = 2 from rfl] at this
  exact ⟨this.1, (Kp.refl ok w).grown this.2 (fun j hj => .inl (h.1 j (by simpa [Value.ownBlock] using hj)))⟩
theorem OM.step {w wr W : World} {B : Nat} {vp vo : Value} {pd o : List S50} (h : OM w wr B vp vo pd o) (hb : Below wr.heap.size wr W) : OM w W B vp vo pd o :=
  ⟨Kd.R_step h.rp (fun k _ hk => hb.block k hk), Kd.R_step h.ro (fun k _ hk => hb.block k hk), h.below.trans (hb.mono h.below.size), Nat.le_trans h.hB hb.size⟩
theorem OM.put {w wr : World} {B g n cap : Nat} {vo : Value} {pd o : List S50} (h : OM w wr B (.slice (some ⟨g, 0, none⟩) n cap) vo pd o) (i : Nat) (hi : i < pd.length) (t : Int) :
    OM w (wr.setCell ⟨g, i * 2 + 1, none⟩ (.int .i64 t)) B (.slice (some ⟨g, 0, none⟩) n cap) vo (pd.set i ⟨pd[i].f0, t⟩) o := by
  obtain ⟨h1, h2⟩ := R_set1 h.rp i hi t
  exact ⟨h1, Kd.R_step h.ro (fun k hk hlt => h2.block hlt (fun h => by omega)), h.below.trans (h2.belowB (fun k hk => hk.1) h.below.size), Nat.le_trans h.hB h2.size⟩
theorem delete_len (g cap k : Nat) (ok : Nat → Prop) (xs : List S50) (w : World) (hR : Kd.R k50 50 w 0 ok (.slice (some ⟨g, 0, none⟩) xs.length cap) xs) (hk : k < xs.length) (hm : xs.length ≤ 1000000) :
    Calls Try.prog 25 #[.slice (some ⟨g, 0, none⟩) xs.length cap, .int .i64 k, .int .i64 ((k : Int) + 1)] w fun e w' => e = .returned (.slice (some ⟨g, 0, none⟩) (xs.eraseIdx k).length cap) ∧ Kd.R k50 50 w' 0 ok (.slice (some ⟨g, 0, none⟩) (xs.eraseIdx k).length cap) (xs.eraseIdx k) ∧ Kp ok w w' := by
  obtain ⟨n, hn⟩ : ∃ n, n + 1 = xs.length := ⟨xs.length - 1, by omega⟩
  have he : (xs.eraseIdx k).length = n := by rw [List.length_eraseIdx, if_pos hk]; omega
  rw [← hn] at hR
  have h := delete_any g n cap k ok xs w hR hn hk hm
  rw [he, ← hn]
  exact h

set_option maxRecDepth 100000 in
set_option maxHeartbeats 1000000 in
theorem order_any (A : Option Addr) (c : Nat) (xs : List S50) (t : Int) (w : World) (hC : Kd.C k50 w A xs.length xs) (hm : xs.length ≤ 1000) (ht : ∀ q ∈ xs, q.f0 ≠ t) :
    Calls Try.prog 13 #[.slice A xs.length c, .int .i64 t] w fun e w' => ∃ v b, e = .returned (.tuple #[v, .bool b]) ∧ Kd.R k50 50 w' 0 (fun k => w.heap.size ≤ k) v (fin t (mu (xs.filter np)) (xs.filter np) []) ∧ Below w.heap.size w w' := by
  obtain ⟨pd, hpd⟩ : ∃ pd, xs.filter np = pd := ⟨_, rfl⟩
  rw [hpd]
  obtain ⟨res, hres⟩ : ∃ res, fin t (mu pd) pd [] = res := ⟨_, rfl⟩
  rw [hres]
  have hfl : pd.length ≤ xs.length := by rw [← hpd]; exact List.length_filter_le _ _
  have htp : ∀ q ∈ pd, q.f0 ≠ t := fun q hq => ht q (by rw [← hpd] at hq; exact (List.mem_filter.1 hq).1)
  have hX := Aside0.mk (And.intro hC (And.intro hm (And.intro htp (And.intro hfl (And.intro hres hpd)))))
  clear hC hm ht htp hfl hres hpd
  go_enter Try.func13, Try.ntmps13
  go_wp2; go_step3
  go_wp2_with fail
  refine (clone_any A c xs w hX.out.1 (by have := hX.out.2.1; omega)).mono ?_
  rintro e w1 ⟨v1, rfl, R1, K1⟩
  have H1 := Aside0.mk (And.intro R1 K1)
  clear R1 K1
  go_wp2_with fail
  refine (deletefunc_any v1 _ xs w1 H1.out.1 (by have := hX.out.2.1; omega)).mono ?_
  rw [hX.out.2.2.2.2.2]
  rintro e w2 ⟨v2, rfl, R2, K2⟩
  have hI : OI w w2 w2.heap.size t v2 (.slice none 0 0) pd [] (mu pd) res :=
    ⟨Kd.R_mono (Kd.R_bound R2) (fun k hk => ⟨hk.1, hk.2.2.1⟩), Kd.R_nil _ _ _ _ _, H1.out.2.none_below.trans (K2.belowB (fun k hk => hk) H1.out.2.size), Nat.le_refl _, Nat.le_trans H1.out.2.size K2.size, hX.out.2.2.2.2.1, Nat.le_refl _, hX.out.2.2.1, by have := hX.out.2.1; have := hX.out.2.2.2.1; omega,
      by have := hX.out.2.1; have := hX.out.2.2.2.1; have : mu pd ≤ 2 * pd.length + 1 := by { unfold mu; split <;> omega }; simp; omega⟩
  obtain ⟨A2, c2, rfl, _, _⟩ := Kd.R_reads R2
  obtain ⟨B, hB⟩ : ∃ B, w2.heap.size = B := ⟨_, rfl⟩
  rw [hB] at hI
  have hI' := Aside0.mk hI
  clear R2 K2 hI H1 hB
  go_wp2; go_step3
  go_wp2
  go_loopg [0, 6, 7] (mu pd) (fun n vp vo vc wr => ∃ (pd' o : List S50) (b : Bool) (A' : Option Addr) (c' : Nat) (Ao : Option Addr) (co : Nat), vp = .slice A' pd'.length c' ∧ vo = .slice Ao o.length co ∧ vc = .bool b ∧ Aside0 (OI w wr B t (.slice A' pd'.length c') (.slice Ao o.length co) pd' o n res))
  case atStart => exact ⟨pd, [], false, A2, c2, none, 0, rfl, rfl, rfl, hI'⟩
  case round =>
    obtain ⟨pd', o, b, A', c', Ao, co, rfl, rfl, rfl, hJ⟩ := hrel
    clear hI'
    by_cases hpos : 0 < pd'.length
    · have hposi : (0 : Int) < pd'.length := by omega
      obtain ⟨n, hn⟩ : ∃ n, gk = n := ⟨_, rfl⟩
      have hmu := hJ.out.mu
      have hmp := mu_pos pd' hpos
      obtain ⟨m, rfl⟩ : ∃ m, n = m + 1 := ⟨n - 1, by omega⟩
      subst hn
      obtain ⟨g, cap, ev, _⟩ := Kd.R_form hJ.out.rp hpos
      injection ev with ev1 ev2 ev3
      subst ev1
      subst ev3
      clear ev2
      go_wp2
      go_loopg [0, 6, 21] pd'.length (fun q v0 v6 v wi => ∃ i : Nat, i + q = pd'.length ∧ v0 = .slice (some ⟨g, 0, none⟩) pd'.length c' ∧ v6 = .slice Ao o.length co ∧ v = .int .i64 i ∧ Aside0 (OI w wi B t (.slice (some ⟨g, 0, none⟩) pd'.length c') (.slice Ao o.length co) pd' o (m + 1) res ∧ ∀ j (h : j < pd'.length), j < i → isFree pd' pd'[j] = false))
      case atStart => exact ⟨0, by omega, rfl, rfl, rfl, ⟨hJ.out, fun j h hj => by omega⟩⟩
      case round =>
        obtain ⟨i, hi, rfl, rfl, rfl, hL⟩ := hrel
        clear hJ
        by_cases hlt : i < pd'.length
        · have hlti : (i : Int) < pd'.length := by omega
          have hplen := hL.out.1.len
          have hwi : wrap64 ((i : Int) + 1) = (i : Int) + 1 := by unfold wrap64; omega
          obtain ⟨gk1, rfl⟩ : ∃ q, gk = q + 1 := ⟨gk - 1, by omega⟩
          obtain ⟨q0, q1, _, _⟩ := R_at50 hL.out.1.rp i hlt
          obtain ⟨x, hx⟩ : ∃ x, x = pd'[i] := ⟨_, rfl⟩
          rw [← hx] at q0 q1
          have hx' := Aside0.mk hx
          clear hx
          have hbx : Aside0 ((wr.alloc (.cells #[.int .i64 x.f0, .int .i64 x.f1] 50)).heap[wr.heap.size]? = some (.cells #[.int .i64 x.f0, .int .i64 x.f1] 50 (0, 0))) := ⟨heap_alloc_new wr _⟩
          cases hany : pd'.any (fun q => q.f1 == x.f0) with
          | false =>
            have hany' := Aside0.mk hany
            clear hany
            go_wp2_with fail
            refine (contains_read wr.heap.size x (some ⟨g, 0, none⟩) c' pd' _ (Kd.C_alloc (Kd.R_reads' hL.out.1.rp).2.2 _) (cell_at hbx.out rfl) (by have := hL.out.1.len; omega)).mono ?_
            rw [hany'.out]
            rintro e w5 ⟨rfl, hB5⟩
            have hb5 : w5.heap[wr.heap.size]? = some (.cells #[.int .i64 x.f0, .int .i64 x.f1] 50 (0, 0)) := (hB5.block _ (by simp)).trans hbx.out
            have z0 : w5.cell? ⟨wr.heap.size, 0, none⟩ = some (.int .i64 x.f0) := cell_at hb5 rfl
            have z1 : w5.cell? ⟨wr.heap.size, 1, none⟩ = some (.int .i64 x.f1) := cell_at hb5 rfl
            have hM := Aside0.mk (hL.out.1.step ((below_alloc (Below.refl _ wr) (.cells #[.int .i64 x.f0, .int .i64 x.f1] 50)).trans (hB5.mono (by simp))))
            clear hB5 hb5
            have hol := hL.out.1.olen
            go_wp2_with (at_builtin; refine Kd.R_append k50 (w0 := w5) 0 (by rfl) (.tmp 31) (.tmp 33) 37 50 (.agg #[.int .i64 0, .int .i64 0]) 16 (by rfl) Try.underlying37 info50 rfl (by decide) (by decide) (.slice Ao o.length co) o x [.int .i64 x.f0, .int .i64 x.f1] (fun k => B ≤ k) (fun _ => False) (by rfl) (by rfl) (k50_mkM _ _ _ x) (fun _ h => h.elim) (fun k hk => Nat.le_trans hM.out.hB hk) hM.out.ro (Below.refl _ _) (Nat.zero_le _) (by omega) ?_; intro v1 wa hRA hBA hgA hatA; obtain ⟨A1, cA, rfl, _, _⟩ := Kd.R_reads hRA; have hN := Aside0.mk (hM.out.app hRA hgA); clear hRA hBA hgA hatA)
            refine (delete_len g c' i _ pd' wa hN.out.rp hlt (by have := hL.out.1.len; omega)).mono ?_
            rintro e w6 ⟨rfl, R6, K6⟩
            have hfr : fr pd' = some i := fr_hit pd' i hlt hL.out.2 (by rw [← hx'.out]; unfold isFree; rw [hany'.out]; rfl)
            have hO : OI w w6 B t (.slice (some ⟨g, 0, none⟩) (pd'.eraseIdx i).length c') (.slice A1 (o ++ [x]).length cA) (pd'.eraseIdx i) (o ++ [x]) m res :=
              ⟨R6, Kd.R_step hN.out.ro (fun k hk hlt => K6.block hlt (fun h => by omega)), hN.out.below.trans (K6.belowB (fun k hk => hk.1) hN.out.below.size), Nat.le_trans hN.out.hB K6.size, hL.out.1.hw,
                by have h7 := hL.out.1.eq; rw [fin_some t m pd' o i hfr hlt, ← hx'.out] at h7; exact h7, by have := mu_some pd' i hfr hlt; omega, fun q hq => hL.out.1.ht q (List.mem_of_mem_eraseIdx hq),
                by have := hL.out.1.len; rw [List.length_eraseIdx, if_pos hlt]; omega, by simp; omega⟩
            have hO' := Aside0.mk hO
            clear R6 K6 hO hfr
            go_wp2
            --!STOP
            go_roundg m
            case rel => exact ⟨pd'.eraseIdx i, o ++ [x], b, some ⟨g, 0, none⟩, c', A1, cA, rfl, by simp, rfl, hO'⟩
            case measure => omega
          | true =>
            have hany' := Aside0.mk hany
            clear hany
            go_wp2_with (go_at_call 24; refine (contains_read wr.heap.size x (some ⟨g, 0, none⟩) c' pd' _ (Kd.C_alloc (Kd.R_reads' hL.out.1.rp).2.2 _) (cell_at hbx.out rfl) (by have := hL.out.1.len; omega)).mono ?_; rw [hany'.out]; rintro e w5 ⟨rfl, hB5⟩; have hM := Aside0.mk (hL.out.1.step ((below_alloc (Below.refl _ wr) (.cells #[.int .i64 x.f0, .int .i64 x.f1] 50)).trans (hB5.mono (by simp)))); clear hB5)
            go_roundg gk1
            case rel =>
              refine ⟨i + 1, by omega, rfl, rfl, by go_num, ⟨hM.out, fun j h hj => ?_⟩⟩
              rcases Nat.lt_or_ge j i with h5 | h5
              · exact hL.out.2 j h h5
              · obtain rfl : j = i := by omega
                rw [← hx'.out]; unfold isFree; rw [hany'.out]; rfl
            case measure => omega
        · have hfr : fr pd' = none := fr_miss pd' (fun j h => hL.out.2 j h (by omega))
          obtain ⟨q0, q1, _, _⟩ := R_at50 hL.out.1.rp 0 hpos
          rw [Nat.zero_mul] at q0
          obtain ⟨a, ha⟩ : ∃ a, a = pd'[0].f0 := ⟨_, rfl⟩
          rw [← ha] at q0
          have hE := Aside0.mk (And.intro ha hfr)
          have hol := hL.out.1.olen
          have hplen := hL.out.1.len
          clear ha hfr q1
          go_wp2_with (at_builtin; refine Kd.R_append k50 (w0 := wr) 0 (by rfl) (.tmp 45) (.tmp 49) 37 50 (.agg #[.int .i64 0, .int .i64 0]) 16 (by rfl) Try.underlying37 info50 rfl (by decide) (by decide) (.slice Ao o.length co) o ⟨t, a⟩ [.int .i64 t, .int .i64 a] (fun k => B ≤ k) (fun _ => False) (by rfl) (by rfl) (k50_mkM _ _ _ ⟨t, a⟩) (fun _ h => h.elim) (fun k hk => Nat.le_trans hL.out.1.hB hk) hL.out.1.ro (Below.refl _ _) (Nat.zero_le _) (by omega) ?_; intro v1 wa hRA hBA hgA hatA; obtain ⟨A1, cA, rfl, _, _⟩ := Kd.R_reads hRA; have hN := Aside0.mk (hL.out.1.app hRA hgA); clear hRA hBA hgA hatA)
          --!STOP
          go_loopg [53] pd'.length (fun q v wi => ∃ i : Nat, i + q = pd'.length ∧ v = .int .i64 i ∧ Aside0 (OM w wi B (.slice (some ⟨g, 0, none⟩) pd'.length c') (.slice A1 (o ++ [(⟨t, a⟩ : S50)]).length cA) (reps t a pd' i) (o ++ [(⟨t, a⟩ : S50)])))
          case atStart => exact ⟨0, by omega, rfl, hN⟩
          case round =>
            obtain ⟨j, hj, rfl, hQ⟩ := hrel
            clear hN
            by_cases hlt2 : j < pd'.length
            · have hlti : (j : Int) < pd'.length := by omega
              obtain ⟨gk1, rfl⟩ : ∃ q, gk = q + 1 := ⟨gk - 1, by omega⟩
              obtain ⟨r0, r1, f0, f1⟩ := R_at50 hQ.out.rp j (by rw [reps_len]; exact hlt2)
              rw [reps_get t a pd' j hlt2] at r1
              clear r0 f0
              by_cases he : pd'[j].f1 = a
              · have he' : (pd'[j].f1 == a) = true := by simpa using he
                have hQ2 := hQ.out.put j (by rw [reps_len]; exact hlt2) t
                rw [reps_get t a pd' j hlt2, reps_hit t a pd' j hlt2 he] at hQ2
                have hQ3 := Aside0.mk hQ2
                obtain ⟨z, hz⟩ : ∃ z, pd'[j].f1 = z := ⟨_, rfl⟩
                rw [hz] at r1 he'
                clear hQ2 he hz
                go_wp2
                go_roundg gk1
                case rel => exact ⟨j + 1, by omega, by go_num, hQ3⟩
                case measure => omega
              · have he' : (pd'[j].f1 == a) = false := by simpa using he
                have hQ2 := hQ.out
                rw [reps_miss t a pd' j hlt2 he] at hQ2
                have hQ3 := Aside0.mk hQ2
                obtain ⟨z, hz⟩ : ∃ z, pd'[j].f1 = z := ⟨_, rfl⟩
                rw [hz] at r1 he'
                clear hQ2 he hz
                go_wp2
                go_roundg gk1
                case rel => exact ⟨j + 1, by omega, by go_num, hQ3⟩
                case measure => omega
            · have hje : j = pd'.length := by omega
              have hQ2 := hQ.out
              have er : reps t a pd' j = pd'.map (rep t a) := by unfold reps; rw [List.take_of_length_le (by omega), List.drop_eq_nil_of_le (by omega), List.append_nil]
              rw [er] at hQ2
              have hO : OI w wr B t (.slice (some ⟨g, 0, none⟩) (pd'.map (rep t a)).length c') (.slice A1 (o ++ [(⟨t, a⟩ : S50)]).length cA) (pd'.map (rep t a)) (o ++ [(⟨t, a⟩ : S50)]) m res :=
                ⟨by rw [List.length_map]; exact hQ2.rp, hQ2.ro, hQ2.below, hQ2.hB, hL.out.1.hw, by have h7 := hL.out.1.eq; rw [fin_none t m pd' o hE.out.2 hpos, ← hE.out.1] at h7; exact h7,
                  by have := mu_none t pd' hE.out.2 hpos hL.out.1.ht; rw [← hE.out.1] at this; omega, fun q hq => by { obtain ⟨q0, h8, rfl⟩ := List.mem_map.1 hq; rw [rep_f0]; exact hL.out.1.ht q0 h8 }, by rw [List.length_map]; exact hplen, by simp; omega⟩
              have hO' := Aside0.mk hO
              clear hO hQ2 er
              go_wp2
              go_roundg m
              case rel => exact ⟨pd'.map (rep t a), o ++ [(⟨t, a⟩ : S50)], true, some ⟨g, 0, none⟩, c', A1, cA, by simp, by simp, rfl, hO'⟩
              case measure => omega
    · have hnil : pd' = [] := List.eq_nil_of_length_eq_zero (by omega)
      subst hnil
      have h7 := hJ.out.eq
      rw [fin_nil] at h7
      subst h7
      have hF := Aside0.mk (And.intro (Kd.R_mono hJ.out.ro (fun k hk => Nat.le_trans hJ.out.hw hk)) hJ.out.below)
      clear hJ hX hpos
      go_wp2
      try rw [Exit.noGoto_ret]
      go_ret2
      exact ⟨_, _, rfl, hF.out.1, hF.out.2⟩
end Go.Proofs.Ytlmendmncfibfaa
