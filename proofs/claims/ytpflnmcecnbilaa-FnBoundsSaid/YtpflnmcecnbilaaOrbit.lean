/-
  Plain laws: orbits of elements; the bounds of Cauchy, Davenport and Chowla; sets with one end are progressions; the theorem of Vosper for sets of groups of prime order.
-/
import Derived.Test.YtpflnmcecnbilaaComb
import Derived.Test.YtpflnmcecnbilaaLong
import Derived.Test.YtpflnmcecnbilaaCauchy
import Derived.Test.YtpflnmcecnbilaaChowla
import Derived.Test.YtpflnmcecnbilaaCommon
import Derived.Test.YtpflnmcecnbilaaPrime
namespace Go.Proofs.Ytpflnmcecnbilaa

section
variable {m : List Nat} (hm : Ok m)
include hm
theorem mulN_add (i x : Nat) : ∀ j, addN m (mulN m i x) (mulN m j x) = mulN m (i + j) x
  | 0 => by rw [mulN_zero, hm.add_zero (mulN_lt hm i x)]; rfl
  | j + 1 => by rw [← mulN_succ hm.ge2 j x, ← hm.assoc, mulN_add i x j, mulN_succ hm.ge2]; rfl
theorem mulN_mul {o x : Nat} (h : mulN m o x = 0) : ∀ q, mulN m (q * o) x = 0
  | 0 => by rw [Nat.zero_mul, mulN_zero]
  | q + 1 => by rw [Nat.add_mul, Nat.one_mul, ← mulN_add hm, mulN_mul h q, h, hm.add_zero hm.pos]
theorem ordE_spec (x : Nat) : mulN m (ordE m x) x = 0 ∧ 1 ≤ ordE m x ∧ ordE m x ≤ prodN m ∧ ∀ j, 1 ≤ j → j < ordE m x → mulN m j x ≠ 0 := by
  have key : ∀ N, 1 ≤ N → mulN m N x = 0 → ∃ n, 1 ≤ n ∧ n ≤ N ∧ mulN m n x = 0 ∧ ∀ j, 1 ≤ j → j < n → mulN m j x ≠ 0 := by
    intro N
    induction N using Nat.strongRecOn with
    | ind N ih =>
      intro h1 hN
      by_cases h : ∃ j, 1 ≤ j ∧ j < N ∧ mulN m j x = 0
      · obtain ⟨j, hj1, hj, hz⟩ := h
        obtain ⟨n, a, b, c, d⟩ := ih j hj hj1 hz
        exact ⟨n, a, by omega, c, d⟩
      · exact ⟨N, h1, Nat.le_refl _, hN, fun j hj1 hj hz => h ⟨j, hj1, hj, hz⟩⟩
  obtain ⟨n, h1, hn, hz, hl⟩ := key (prodN m) hm.pos (mulN_dvd (Nat.dvd_refl _) x)
  rw [ordE_eq h1 hn hl hz]
  exact ⟨hz, h1, hn, hl⟩
theorem ordE_dvd (x : Nat) : prodN m % ordE m x = 0 := by
  obtain ⟨hz, h1, _, hl⟩ := ordE_spec hm x
  have hdm := Nat.div_add_mod (prodN m) (ordE m x)
  have hlt := Nat.mod_lt (prodN m) (show ordE m x > 0 by omega)
  have h0 : mulN m (prodN m) x = 0 := mulN_dvd (Nat.dvd_refl _) x
  rw [← hdm, ← mulN_add hm, Nat.mul_comm, mulN_mul hm hz, hm.zero_add (mulN_lt hm _ x)] at h0
  generalize prodN m % ordE m x = r at *
  rcases Nat.eq_zero_or_pos r with h | h
  · exact h
  · exact absurd h0 (hl r h hlt)
theorem ordE_ge2 {x : Nat} (hx : x < prodN m) (h0 : x ≠ 0) : 2 ≤ ordE m x := by
  obtain ⟨hz, h1, _, _⟩ := ordE_spec hm x
  rcases (by omega : ordE m x = 1 ∨ 2 ≤ ordE m x) with h | h
  · rw [h, mulN_one hm hx] at hz; exact absurd hz h0
  · exact h
theorem stepN_inj {s d i j : Nat} (hs : s < prodN m) (_hd : d < prodN m) (hi : i < ordE m d) (hj : j < ordE m d) (h : stepN m s d i = stepN m s d j) : i = j := by
  obtain ⟨_, _, _, hl⟩ := ordE_spec hm d
  have key : ∀ i j, i < j → j < ordE m d → stepN m s d j = stepN m s d i → False := fun i j hij hj h => by
    have h2 := stepN_cancel hm hs d i (j - i) (by rw [show j - i + i = j from by omega]; exact h)
    rw [stepN_eq hm hs] at h2
    have h3 := hm.lcancel (mulN_lt hm (j - i) d) hm.pos (by rw [h2, hm.add_zero hs])
    exact hl (j - i) (by omega) (by omega) h3
  rcases Nat.lt_trichotomy i j with h1 | h1 | h1
  · exact (key i j h1 hj h.symm).elim
  · exact h1
  · exact (key j i h1 hi h).elim
theorem orbit_ge {b S : Nat} (hb : b < prodN m) (hS : S < 2 ^ prodN m) (hSn : S ≠ 0) (hcl : ∀ x ∈ mem S, addN m x b ∈ mem S) : ordE m b ≤ card S := by
  obtain ⟨s, hs⟩ := card_pos (hm.lt24 hS) hSn
  have hsn := hm.mlt hS hs
  have hin : ∀ i, stepN m s b i ∈ mem S := fun i => by
    induction i with
    | zero => exact hs
    | succ i ih => exact hcl _ ih
  have hn : ((List.range (ordE m b)).map (stepN m s b)).Nodup := nodup_map_on List.nodup_range fun x hx y hy e => stepN_inj hm hsn hb (List.mem_range.1 hx) (List.mem_range.1 hy) e
  have h := len_le_of_sub hn (K := mem S) (fun z hz => by
    obtain ⟨i, _, rfl⟩ := List.mem_map.1 hz; exact hin i)
  simpa [card] using h
theorem primeG_of (hp : primN (prodN m) = true) : PrimeG m := by
  intro b hb hb0 S hS hSn hcl
  have h1 := orbit_ge hm hb hS hSn hcl
  have h2 := ordE_dvd hm b
  have h3 := ordE_ge2 hm hb hb0
  have h4 := (ordE_spec hm b).2.2.1
  rcases Nat.lt_or_ge (ordE m b) (prodN m) with h | h
  · rw [primN_no h3 h h2] at hp; cases hp
  · omega
omit hm in
theorem leastD_dvd {n e : Nat} (h2 : 2 ≤ e) (hn : n % e = 0) : ∀ {d p : Nat}, e ≤ d → leastD n d p ≤ e
  | 0, p, h => by omega
  | d + 1, p, h => by
    rw [leastD, if_neg (by omega)]
    by_cases he : e = d + 1
    · subst he
      rw [if_pos hn]
      exact leastD_le (Nat.le_refl _) (by omega)
    · exact leastD_dvd h2 hn (by omega)
theorem bound_cauchy {A B : Nat} (hA : A < 2 ^ prodN m) (hB : B < 2 ^ prodN m) (hAn : A ≠ 0) (hBn : B ≠ 0) :
    leastD (prodN m) (prodN m) 1 ≤ card (sumN m A B) ∨ card A + card B ≤ card (sumN m A B) + 1 := by
  refine cauchy_davenport_k hm (fun b hb hb0 S hS hSn hcl => ?_) hA hB hAn hBn
  have h1 := orbit_ge hm hb hS hSn hcl
  have h2 := leastD_dvd (p := 1) (ordE_ge2 hm hb hb0) (ordE_dvd hm b) (ordE_spec hm b).2.2.1
  omega
theorem bound_chowla {A B : Nat} (hA : A < 2 ^ prodN m) (hB : B < 2 ^ prodN m) (hAn : A ≠ 0) (h0 : 0 ∈ mem B) (hc : chowB m B = true) :
    prodN m ≤ card (sumN m A B) ∨ card A + card B ≤ card (sumN m A B) + 1 := by
  refine chowla hm _ A B (Nat.le_refl _) hA hB hAn h0 fun b hb hb0 S hS hSn hcl => ?_
  have h1 := orbit_ge hm (hm.mlt hB hb) hS hSn hcl
  unfold chowB at hc
  have h2 := List.all_eq_true.1 hc b hb
  simp [hb0] at h2
  omega
/-- a set with one end is a progression -/
theorem ap_prog (hp : PrimeG m) {S d : Nat} (hd : d < prodN m) (hd0 : d ≠ 0) (hS : S < 2 ^ prodN m) (hSn : S ≠ 0) (hlt : card S < prodN m) (hap : AP m d S) :
    ∃ s ∈ mem S, ofL (progTo m s d (card S)) = S := by
  have hst : ∃ z, z ∈ mem (startsN m d S) := by
    by_cases h : 1 ≤ card (startsN m d S)
    · exact mem_of_card h
    · exfalso
      have h1 := ends_starts hm (d := d) hS
      have h2 := hp d hd hd0 S hS hSn fun x hx => by
        by_cases hc : addN m x d ∈ mem S
        · exact hc
        · have := card_one_le ((mem_ends hm hS).2 ⟨hx, hc⟩); omega
      omega
  obtain ⟨z, hz⟩ := hst
  obtain ⟨hzn, hzS, hzd⟩ := (mem_starts hm hS).1 hz
  have hsn := hm.add_lt z d
  have hall : ∀ k, k ≤ card S → ∀ i, i < k → stepN m (addN m z d) d i ∈ mem S := by
    intro k
    induction k with
    | zero => intro _ i hi; omega
    | succ k ih =>
      intro hk i hi
      have ih' := ih (by omega)
      rcases (by omega : i < k ∨ i = k) with h | rfl
      · exact ih' i h
      · cases i with
        | zero => exact hzd
        | succ j =>
          by_cases hc : stepN m (addN m z d) d (j + 1) ∈ mem S
          · exact hc
          · exfalso
            have hend : stepN m (addN m z d) d j ∈ mem (endsN m d S) := (mem_ends hm hS).2 ⟨ih' j (by omega), hc⟩
            have hT := setN_lt (prodN m) fun x => S.testBit x && !((List.range (j + 1)).map (stepN m (addN m z d) d)).contains x
            have mT : ∀ x, x ∈ mem (setN (prodN m) fun x => S.testBit x && !((List.range (j + 1)).map (stepN m (addN m z d) d)).contains x) ↔ x ∈ mem S ∧ ∀ i, i < j + 1 → stepN m (addN m z d) d i ≠ x := fun x => by
              rw [mem_setN hm.ord, Bool.and_eq_true, hm.tb hS, Bool.not_eq_true']
              have e : ((List.range (j + 1)).map (stepN m (addN m z d) d)).contains x = false ↔ ∀ i, i < j + 1 → stepN m (addN m z d) d i ≠ x := by
                rw [← Bool.not_eq_true, List.contains_iff_mem, List.mem_map]
                exact ⟨fun h i hi e => h ⟨i, List.mem_range.2 hi, e⟩, fun h ⟨i, hi, e⟩ => h i (List.mem_range.1 hi) e⟩
              rw [e]
              exact ⟨fun h => h.2, fun h => ⟨hm.mlt hS h.1, h⟩⟩
            generalize (setN (prodN m) fun x => S.testBit x && !((List.range (j + 1)).map (stepN m (addN m z d) d)).contains x) = T at *
            have hTn : T ≠ 0 := by
              intro hT0
              have hsub : ∀ x ∈ mem S, x ∈ (List.range (j + 1)).map (stepN m (addN m z d) d) := fun x hx => by
                by_cases h : ∃ i, i < j + 1 ∧ stepN m (addN m z d) d i = x
                · obtain ⟨i, hi, e⟩ := h; exact List.mem_map.2 ⟨i, List.mem_range.2 hi, e⟩
                · have := (mT x).2 ⟨hx, fun i hi e => h ⟨i, hi, e⟩⟩
                  rw [hT0] at this; simp [mem_iff] at this
              have := len_le_of_sub (mem_nodup S) hsub
              rw [List.length_map, List.length_range] at this
              unfold card at hk; omega
            have hcl : ∀ x ∈ mem T, addN m x d ∈ mem T := fun x hx => by
              obtain ⟨hx1, hx2⟩ := (mT x).1 hx
              refine (mT _).2 ⟨?_, fun i hi e => ?_⟩
              · by_cases h : addN m x d ∈ mem S
                · exact h
                · have := eq_of_card_one hap ((mem_ends hm hS).2 ⟨hx1, h⟩) hend
                  exact absurd this.symm (hx2 j (by omega))
              · cases i with
                | zero =>
                  have := hm.cancel hzn (hm.mlt hS hx1) e
                  rw [this] at hzS; exact hzS hx1
                | succ i =>
                  have := hm.cancel (stepN_lt hm hsn i) (hm.mlt hS hx1) e
                  exact hx2 i (by omega) this
            have h2 := hp d hd hd0 T hT hTn hcl
            have h3 : card T ≤ card S := card_mono fun x hx => ((mT x).1 hx).1
            omega
  refine ⟨addN m z d, hzd, ?_⟩
  have hin := hall (card S) (Nat.le_refl _)
  have hnd : (progTo m (addN m z d) d (card S)).Nodup := by
    refine nodup_map_on List.nodup_range fun i hi j hj e => ?_
    have key : ∀ i j, i < j → j < card S → stepN m (addN m z d) d j = stepN m (addN m z d) d i → False := fun i j hij hj h => by
      have h2 := stepN_cancel hm hsn d i (j - i) (by rw [show j - i + i = j from by omega]; exact h)
      obtain ⟨q, hq⟩ : ∃ q, j - i = q + 1 := ⟨j - i - 1, by omega⟩
      rw [hq] at h2
      have := hm.cancel (stepN_lt hm hsn q) hzn h2
      exact hzS (by rw [← this]; exact hin q (by omega))
    rcases Nat.lt_trichotomy i j with h1 | h1 | h1
    · exact (key i j h1 (List.mem_range.1 hj) e.symm).elim
    · exact h1
    · exact (key j i h1 (List.mem_range.1 hi) e).elim
  have h24 : ∀ x ∈ progTo m (addN m z d) d (card S), x < prodN m := fun x hx => by
    obtain ⟨i, _, rfl⟩ := List.mem_map.1 hx; exact stepN_lt hm hsn i
  have hord := hm.ord
  refine eq_of_sub (hm.lt24 (ofL_lt h24)) (hm.lt24 hS) (fun x hx => ?_) ?_
  · obtain ⟨i, hi, rfl⟩ := List.mem_map.1 ((mem_ofL (fun x hx => by have := h24 x hx; omega)).1 hx)
    exact hin i (List.mem_range.1 hi)
  · rw [card_ofL (fun x hx => by have := h24 x hx; omega) hnd]; simp [progTo]
theorem isStep_of (hp : PrimeG m) {S d : Nat} (hd : d < prodN m) (hd0 : d ≠ 0) (hS : S < 2 ^ prodN m) (hSn : S ≠ 0) (hlt : card S < prodN m) (hap : AP m d S) : isStep m S d = true := by
  obtain ⟨s, hs, he⟩ := ap_prog hm hp hd hd0 hS hSn hlt hap
  unfold isStep; rw [List.any_eq_true]; exact ⟨s, hs, by simp [he]⟩
/-- in groups of prime order a smallest sum has one of the reasons told -/
theorem vosper_says (hp : primN (prodN m) = true) {A B : Nat} (hA : A < 2 ^ prodN m) (hB : B < 2 ^ prodN m) (hf : full (cst m) A B = true) (h2 : 2 ≤ card A) (h2' : 2 ≤ card B)
    (hs : card (sumN m A B) + 1 = card A + card B) (hlt : card (sumN m A B) + 2 ≤ prodN m) : comB (cst m) A B = true := by
  have hP := primeG_of hm hp
  have hAn : A ≠ 0 := ne_zero_of_card (by omega)
  have hBn : B ≠ 0 := ne_zero_of_card (by omega)
  obtain ⟨d, hd, hd0, h3, h4⟩ := vosper hm hP hA hB h2 h2' hs hlt
  have h5 := isStep_of hm hP hd hd0 hA hAn (by omega) h3
  have h6 := isStep_of hm hP hd hd0 hB hBn (by omega) h4
  obtain ⟨y1, y2, y3, y4⟩ := full_yes hf
  have e1 : difOk (cst m) A = true := by simp only [difOk, y1, y3]; rfl
  have e2 : difOk (cst m) B = true := by simp only [difOk, y2, y4]; rfl
  have mS : ∀ S, isStep m S d = true → (d : Int) ∈ cst (stepsTo m S (prodN m)) := fun S h => by
    unfold cst stepsTo
    exact List.mem_map.2 ⟨d, List.mem_filter.2 ⟨List.mem_range.2 hd, h⟩, rfl⟩
  unfold comB comF
  rw [difsF_yes e1, difsF_yes e2, List.find?_isSome]
  exact ⟨(d : Int), mS A h5, by unfold hasI; rw [decide_eq_true_eq]; exact mS B h6⟩
end
end Go.Proofs.Ytpflnmcecnbilaa
