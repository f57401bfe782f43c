/- The ordered copies give the parallel assignment, in plain lists. -/
import Derived.Test.YtlmendmncfibfaaSeqH
set_option linter.unusedVariables false
set_option linter.unusedSimpArgs false
namespace Go.Proofs.Ytlmendmncfibfaa
open Go.RowKit Go.Proofs.YtlmendmncfibfaaW.PrintWords Go.Proofs.Ytlmendmncfibfaa.POutofssaSequentializes

abbrev Regs := Int → Option Int
def upd (s : Regs) (k : Int) (v : Option Int) : Regs := fun x => if x = k then v else s x
theorem upd_same (s : Regs) (k : Int) (v : Option Int) : upd s k v k = v := by simp [upd]
theorem upd_other (s : Regs) {k x : Int} (v : Option Int) (h : x ≠ k) : upd s k v x = s x := by simp [upd, h]
/-- Running the copies o from the registers s: each reads a known register and writes t or a destination; at the end every destination d holds S d. -/
inductive Good (t : Int) (dst : List Int) (S : Int → Int) : List S50 → Regs → Prop
  | nil {s : Regs} (h : ∀ d ∈ dst, s d = some (S d)) : Good t dst S [] s
  | cons {q : S50} {o : List S50} {s : Regs} (v : Int) (hv : s q.f1 = some v) (hd : q.f0 = t ∨ q.f0 ∈ dst) (h : Good t dst S o (upd s q.f0 (some v))) : Good t dst S (q :: o) s
/-- What holds while pd is still to be done. -/
structure J (t : Int) (dst : List Int) (S : Int → Int) (pd : List S50) (s : Regs) : Prop where
  known : ∀ d ∈ dst, (s d).isSome = true
  src : ∀ q ∈ pd, s q.f1 = some (S q.f0)
  done : ∀ d ∈ dst, d ∉ pd.map S50.f0 → s d = some (S d)
  nd : (pd.map S50.f0).Nodup
  dst_ : ∀ q ∈ pd, q.f0 ∈ dst

theorem len_lt_of (t : Int) : ∀ (l m : List Int), l.Nodup → (∀ x ∈ l, x ∈ m) → t ∈ m → t ∉ l → l.length < m.length
  | [], m, _, _, ht, _ => by
    cases m with
    | nil => cases ht
    | cons => simp
  | a :: l, m, hn, hs, ht, hnt => by
    have ha := hs a List.mem_cons_self
    rw [List.nodup_cons] at hn
    have h1 := len_lt_of t l (m.erase a) hn.2 (fun x hx => (List.mem_erase_of_ne (fun e => hn.1 (by rw [← e]; exact hx))).2 (hs x (List.mem_cons_of_mem _ hx))) ((List.mem_erase_of_ne (fun e => hnt (by rw [e]; exact List.mem_cons_self))).2 ht) (fun h => hnt (List.mem_cons_of_mem _ h))
    rw [List.length_erase_of_mem ha] at h1
    have : 0 < m.length := List.length_pos_of_mem ha
    simp only [List.length_cons]
    omega
theorem no_temp {t : Int} {pd : List S50} (hfr : fr pd = none) (nd : (pd.map S50.f0).Nodup) (ht : ∀ q ∈ pd, q.f0 ≠ t) : ∀ q ∈ pd, q.f1 ≠ t := by
  intro q hq e
  have h := len_lt_of t (pd.map S50.f0) (pd.map S50.f1) nd (fun x hx => by
    obtain ⟨p, hp, rfl⟩ := List.mem_map.1 hx
    have h1 := List.findIdx?_eq_none_iff.1 hfr p hp
    unfold isFree at h1
    have h2 : (pd.any fun q => q.f1 == p.f0) = true := by simpa using h1
    obtain ⟨r, hr, hr2⟩ := List.any_eq_true.1 h2
    have : r.f1 = p.f0 := by simpa using hr2
    exact List.mem_map.2 ⟨r, hr, this⟩) (List.mem_map.2 ⟨q, hq, e⟩) (fun h => by
    obtain ⟨p, hp, h2⟩ := List.mem_map.1 h
    exact ht p hp h2)
  simp at h
theorem mem_erase_ne {pd : List S50} {i : Nat} (hi : i < pd.length) (nd : (pd.map S50.f0).Nodup) : ∀ q ∈ pd.eraseIdx i, q.f0 ≠ pd[i].f0 := by
  intro q hq e
  rw [List.mem_eraseIdx_iff_getElem] at hq
  obtain ⟨j, hj, hne, hq2⟩ := hq
  have h1 : (pd.map S50.f0)[j]'(by simpa using hj) = (pd.map S50.f0)[i]'(by simpa using hi) := by
    rw [List.getElem_map, List.getElem_map, hq2, e]
  exact hne ((List.getElem_inj nd).1 h1)
theorem fin_good (t : Int) (dst : List Int) (S : Int → Int) (htd : t ∉ dst) : ∀ (n : Nat) (pd out : List S50) (s : Regs), J t dst S pd s → mu pd ≤ n → ∃ o, fin t n pd out = out ++ o ∧ Good t dst S o s := by
  intro n
  induction n with
  | zero =>
    intro pd out s hJ hm
    obtain rfl : pd = [] := by
      rcases pd with _ | ⟨p, l⟩
      · rfl
      · have := mu_pos (p :: l) (by simp); omega
    exact ⟨[], by simp [fin], .nil fun d hd => hJ.done d hd (by simp)⟩
  | succ n ih =>
    intro pd out s hJ hm
    by_cases hpos : 0 < pd.length
    · have ht : ∀ q ∈ pd, q.f0 ≠ t := fun q hq e => htd (by rw [← e]; exact hJ.dst_ q hq)
      cases hfr : fr pd with
      | some i =>
        obtain ⟨hi, hfree, _⟩ := List.findIdx?_eq_some_iff_getElem.1 hfr
        have hmem : pd[i] ∈ pd := List.getElem_mem hi
        have hnof : ∀ q ∈ pd, q.f1 ≠ pd[i].f0 := by
          intro q hq e
          unfold isFree at hfree
          have : (pd.any fun q => q.f1 == pd[i].f0) = true := List.any_eq_true.2 ⟨q, hq, by simp [e]⟩
          rw [this] at hfree
          cases hfree
        rw [fin_some t n pd out i hfr hi]
        have hs := hJ.src _ hmem
        have hJ2 : J t dst S (pd.eraseIdx i) (upd s pd[i].f0 (some (S pd[i].f0))) := by
          refine ⟨fun d hd => ?_, fun q hq => ?_, fun d hd hn => ?_, ?_, fun q hq => hJ.dst_ q (List.mem_of_mem_eraseIdx hq)⟩
          · by_cases e : d = pd[i].f0
            · rw [e, upd_same]; rfl
            · rw [upd_other _ _ e]; exact hJ.known d hd
          · have hq' := List.mem_of_mem_eraseIdx hq
            rw [upd_other _ _ (hnof q hq')]
            exact hJ.src q hq'
          · by_cases e : d = pd[i].f0
            · rw [e, upd_same]
            · rw [upd_other _ _ e]
              refine hJ.done d hd (fun h => hn ?_)
              obtain ⟨q, hq, rfl⟩ := List.mem_map.1 h
              refine List.mem_map.2 ⟨q, ?_, rfl⟩
              obtain ⟨j, hj, rfl⟩ := List.mem_iff_getElem.1 hq
              exact List.mem_eraseIdx_iff_getElem.2 ⟨j, hj, fun e2 => e (by subst e2; rfl), rfl⟩
          · exact hJ.nd.sublist ((List.eraseIdx_sublist pd i).map _)
        obtain ⟨o, ho, hg⟩ := ih (pd.eraseIdx i) (out ++ [pd[i]]) _ hJ2 (by have := mu_some pd i hfr hi; omega)
        exact ⟨pd[i] :: o, by rw [ho]; simp, .cons _ hs (.inr (hJ.dst_ _ hmem)) hg⟩
      | none =>
        rw [fin_none t n pd out hfr hpos]
        have hnt := no_temp hfr hJ.nd ht
        have hmem : pd[0] ∈ pd := List.getElem_mem hpos
        obtain ⟨v, hv⟩ := Option.isSome_iff_exists.1 (hJ.known _ (hJ.dst_ _ hmem))
        have hmap : (pd.map (rep t pd[0].f0)).map S50.f0 = pd.map S50.f0 := by
          rw [List.map_map]; exact List.map_congr_left fun q _ => rep_f0 _ _ q
        have hJ2 : J t dst S (pd.map (rep t pd[0].f0)) (upd s t (some v)) := by
          refine ⟨fun d hd => ?_, fun q hq => ?_, fun d hd hn => ?_, ?_, fun q hq => ?_⟩
          · rw [upd_other _ _ (fun e => htd (by rw [← e]; exact hd))]; exact hJ.known d hd
          · obtain ⟨q0, hq0, rfl⟩ := List.mem_map.1 hq
            have h1 := hJ.src q0 hq0
            unfold rep
            by_cases e : q0.f1 = pd[0].f0
            · rw [if_pos e, upd_same]
              rw [e, hv] at h1
              exact h1
            · rw [if_neg e, upd_other _ _ (hnt q0 hq0)]
              exact h1
          · rw [upd_other _ _ (fun e => htd (by rw [← e]; exact hd))]
            exact hJ.done d hd (by rw [hmap] at hn; exact hn)
          · rw [hmap]; exact hJ.nd
          · obtain ⟨q0, hq0, rfl⟩ := List.mem_map.1 hq
            rw [rep_f0]
            exact hJ.dst_ q0 hq0
        obtain ⟨o, ho, hg⟩ := ih (pd.map (rep t pd[0].f0)) (out ++ [⟨t, pd[0].f0⟩]) _ hJ2 (by have := mu_none t pd hfr hpos ht; omega)
        exact ⟨⟨t, pd[0].f0⟩ :: o, by rw [ho]; simp, .cons _ hv (.inl rfl) hg⟩
    · obtain rfl : pd = [] := List.eq_nil_of_length_eq_zero (by omega)
      exact ⟨[], by rw [fin_nil]; simp, .nil fun d hd => hJ.done d hd (by simp)⟩

/-- The registers after i rounds of the first loop. -/
def regs (dst src : List Int) (i : Nat) : Regs := fun x => if x ∈ dst.take i ∨ x ∈ src.take i then some x else none
theorem regs_succ (dst src : List Int) (i : Nat) (h : i < dst.length) (h2 : i < src.length) : regs dst src (i + 1) = upd (upd (regs dst src i) dst[i] (some dst[i])) src[i] (some src[i]) := by
  funext x
  unfold regs upd
  rw [List.take_succ_eq_append_getElem h, List.take_succ_eq_append_getElem h2]
  simp only [List.mem_append, List.mem_singleton]
  by_cases e : x = src[i]
  · rw [if_pos (.inr (.inr e)), if_pos e, e]
  · by_cases e2 : x = dst[i]
    · rw [if_pos (.inl (.inr e2)), if_neg e, if_pos e2, e2]
    · rw [if_neg e, if_neg e2]
      simp only [e, e2, or_false]
/-- The source of a destination. -/
def srcOf (dst src : List Int) (d : Int) : Int := src.getD (dst.idxOf d) 0
theorem srcOf_get (dst src : List Int) (hnd : dst.Nodup) (i : Nat) (h : i < dst.length) (h2 : i < src.length) : srcOf dst src dst[i] = src[i] := by
  unfold srcOf
  have : dst.idxOf dst[i] = i := by
    have h3 := List.idxOf_lt_length_iff.2 (List.getElem_mem h)
    exact (List.getElem_inj (h₀ := h3) (h₁ := h) hnd).1 (List.getElem_idxOf h3)
  rw [this]
  simp [h2]
theorem zip_get (dst src : List Int) (q : S50) (hq : q ∈ List.zipWith S50.mk dst src) : ∃ i, ∃ (h : i < dst.length) (h2 : i < src.length), q = ⟨dst[i], src[i]⟩ := by
  obtain ⟨i, hi, rfl⟩ := List.mem_iff_getElem.1 hq
  rw [List.length_zipWith] at hi
  exact ⟨i, by omega, by omega, by rw [List.getElem_zipWith]⟩
theorem zip_f0s : ∀ (dst src : List Int), dst.length = src.length → (List.zipWith S50.mk dst src).map S50.f0 = dst
  | [], _, _ => by simp
  | a :: l, [], h => by simp at h
  | a :: l, b :: m, h => by rw [List.zipWith_cons_cons, List.map_cons, zip_f0s l m (by simpa using h)]
theorem ord_good (dst src : List Int) (t : Int) (hl : dst.length = src.length) (hnd : dst.Nodup) (htd : t ∉ dst) : Good t dst (srcOf dst src) (ord dst src t) (regs dst src dst.length) := by
  have hJ : J t dst (srcOf dst src) ((List.zipWith S50.mk dst src).filter np) (regs dst src dst.length) := by
    refine ⟨fun d hd => ?_, fun q hq => ?_, fun d hd hn => ?_, ?_, fun q hq => ?_⟩
    · unfold regs; rw [List.take_length, if_pos (.inl hd)]; rfl
    · obtain ⟨i, h, h2, rfl⟩ := zip_get dst src q (List.mem_filter.1 hq).1
      show regs dst src dst.length src[i] = some (srcOf dst src dst[i])
      rw [srcOf_get dst src hnd i h h2]
      unfold regs
      rw [hl, List.take_length, if_pos (.inr (List.getElem_mem h2))]
    · obtain ⟨i, h, rfl⟩ := List.mem_iff_getElem.1 hd
      have h2 : i < src.length := by omega
      rw [srcOf_get dst src hnd i h h2]
      have e : dst[i] = src[i] := by
        refine Classical.byContradiction fun hne => hn (List.mem_map.2 ⟨⟨dst[i], src[i]⟩, List.mem_filter.2 ⟨?_, ?_⟩, rfl⟩)
        · refine List.mem_iff_getElem.2 ⟨i, by rw [List.length_zipWith]; omega, by rw [List.getElem_zipWith]⟩
        · simpa [np] using fun e : src[i] = dst[i] => hne e.symm
      unfold regs
      rw [List.take_length, if_pos (.inl (List.getElem_mem h)), e]
    · have := (List.filter_sublist (l := List.zipWith S50.mk dst src) (p := np)).map S50.f0
      rw [zip_f0s dst src hl] at this
      exact hnd.sublist this
    · obtain ⟨i, h, h2, rfl⟩ := zip_get dst src q (List.mem_filter.1 hq).1
      exact List.getElem_mem h
  obtain ⟨o, ho, hg⟩ := fin_good t dst (srcOf dst src) htd (mu ((List.zipWith S50.mk dst src).filter np)) _ [] _ hJ (Nat.le_refl _)
  have : ord dst src t = o := by unfold ord; rw [ho]; rfl
  rw [this]
  exact hg
end Go.Proofs.Ytlmendmncfibfaa
