/-
  Contracts: popular sums, triples.
-/
import Derived.Test.YtalflbnplgmlpaaEnergy
import Derived.Test.YtalflbnplgmlpaaPro
namespace Go.Proofs.Ytalflbnplgmlpaa
open Go.RowKit

def popTo (T : List Nat) (t : Int) (k : Nat) : List Nat := (List.range k).filter fun z => decide (t ≤ ((T.getD z 0 : Nat) : Int))
theorem popTo_yes {T : List Nat} {t : Int} {k : Nat} (h : t ≤ ((T.getD k 0 : Nat) : Int)) : popTo T t (k + 1) = popTo T t k ++ [k] := by
  unfold popTo; rw [List.range_succ, List.filter_append]; simp [-List.getD_eq_getElem?_getD, h]
theorem popTo_no {T : List Nat} {t : Int} {k : Nat} (h : ¬ t ≤ ((T.getD k 0 : Nat) : Int)) : popTo T t (k + 1) = popTo T t k := by
  unfold popTo; rw [List.range_succ, List.filter_append]; simp [-List.getD_eq_getElem?_getD, h]
theorem popTo_lt {T : List Nat} {t : Int} {k : Nat} (hk : k ≤ 24) : ∀ i ∈ popTo T t k, i < 24 := fun i hi => by
  simp only [popTo, List.mem_filter, List.mem_range] at hi; omega
def popOk (l : List Int) (a b t : Int) : Bool := two l a b && inB t 1 24
def popF (l : List Int) (a b t : Int) : Int := if popOk l a b t = true then (ofL (popTo (tabN (toN l) a.toNat b.toNat) t (prodN (toN l))) : Nat) else -1
theorem popF_yes {m : List Nat} {A B : Nat} {t : Int} (_hm : Ok m) (h : popOk (cst m) A B t = true) : popF (cst m) A B t = (ofL (popTo (tabN m A B) t (prodN m)) : Nat) := by
  unfold popF; rw [if_pos h, toN_cst, Int.toNat_natCast, Int.toNat_natCast]
theorem popF_no {l : List Int} {a b t : Int} (h : popOk l a b t = false) : popF l a b t = -1 := by unfold popF; rw [if_neg (by simp [h])]
theorem popOk_no {l : List Int} {a b t : Int} (h : popOk l a b t = false) : two l a b = false ∨ (two l a b = true ∧ inB t 1 24 = false) := by
  simp only [popOk] at h
  cases h1 : two l a b <;> simp_all
set_option maxHeartbeats 400000 in
theorem popularSums_any (b off cap : Nat) (l : List Int) (x y t : Int) (w : World) (hl : l.length ≤ 1099511627776) (hg : GrpAt w b off l) :
    Calls Try.prog 44 #[.agg #[.slice (some ⟨b, off, none⟩) l.length cap], .int .i64 x, .int .i64 y, .int .i64 t] w fun e w' => e = .returned (.int .i64 (popF l x y t)) ∧ Below w.heap.size w w' := by
  have hst := St.init cap 27 hg
  have hst1 := hst.step ((Below.refl _ _).alloc (Nat.le_refl _) (.cells #[.int .i64 x, .int .i64 y] 3))
  have hg2 := GrpAt.two (w.alloc (.cells #[.slice (some ⟨b, off, none⟩) l.length cap] 27)) x y 3 (w.heap.size + 1) (by simp)
  go_enter Try.func44, Try.ntmps44
  go_wp2_with fail
  refine (areSets_two _ _ _ _ _ _ _ _ _ hl hst1.grp hg2).mono ?_; rintro e w1 ⟨rfl, hb1⟩; have hst2 := hst1.step hb1; have hbox2 := hst2.box
  clear hst hst1 hg2 hb1 hg
  by_cases h : popOk l x y t = true
  · have hp := h
    simp only [popOk, Bool.and_eq_true] at hp
    obtain ⟨h2, ht⟩ := hp
    have h3 := two_iff.1 h2
    obtain ⟨m, A, B, hm, rfl, rfl, rfl, hA, hB⟩ := h3
    have hr := hid (popF_yes hm h)
    have htr := inB_iff.1 ht
    clear h
    go_wp2_with (first | (go_at_call 57; refine (within_any _ _ _ _).mono ?_; rintro e wN ⟨rfl, rfl⟩))
    refine (sumTable_yes _ _ _ _ _ _ _ hm hA hB hst2.grp).mono ?_; rintro e w3 ⟨g, gc, rfl, hmade⟩
    have hst3 := hst2.step hmade.below
    have hc := hmade.grp.nat0
    have hlen : (cst (tabN m A B)).length ≤ 24 := by rw [cst_length, tab_len]; exact hm.ord
    have hlen2 := hid (tab_len m A B)
    clear hmade hst2 hbox2 hA hB h2 ht
    generalize tabN m A B = T at *
    go_wp2
    go_loop [9, 28] (fun o i => ∃ k : Nat, i = .int .i64 k ∧ k ≤ (cst T).length ∧ o = .int .i64 (ofL (popTo T t k) : Nat)) (fun _ i => (cst T).length - (intOf i).toNat)
    case atStart => exact ⟨0, rfl, by omega, rfl⟩
    case round =>
      obtain ⟨k, rfl, hk, rfl⟩ := hrel
      by_cases hlt : k < (cst T).length
      · have hck := hc k hlt
        have hor := hid (ofL_orP (popTo_lt (T := T) (t := t) (k := k) (by omega)) (show k < 24 by omega))
        have hsh := shl1 (x := k) (by omega)
        have hpl := pw_le (x := k) (by omega)
        clear hc
        by_cases hge : t ≤ ((T.getD k 0 : Nat) : Int)
        · have hs : Hid (popTo T t (k + 1) = popTo T t k ++ [k]) := popTo_yes hge
          generalize T.getD k 0 = c at *
          go_wp2
          go_round
          case rel => exact ⟨k + 1, by go_num, by omega, by rw [hs.out, ← hor.out]⟩
          case measure => simp [intOf]; omega
        · have hs : Hid (popTo T t (k + 1) = popTo T t k) := popTo_no hge
          have hge' : ((T.getD k 0 : Nat) : Int) < t := by omega
          generalize T.getD k 0 = c at *
          go_wp2
          go_round
          case rel => exact ⟨k + 1, by go_num, by omega, by rw [hs.out]⟩
          case measure => simp [intOf]; omega
      · have he : Hid (popTo T t k = popTo T t (prodN m)) := by unfold Hid; rw [show k = prodN m from by rw [← hlen2.out, ← cst_length]; omega]
        go_wp2
        go_ret
        exact ⟨ret_i (by rw [hr.out, he.out]), hst3.below⟩
  · have hn : popOk l x y t = false := by simpa using h
    have hr := hid (popF_no hn)
    clear h
    rcases popOk_no hn with h1 | ⟨h1, h2⟩
    all_goals
      go_wp2_with (first | (go_at_call 57; refine (within_any _ _ _ _).mono ?_; rintro e wN ⟨rfl, rfl⟩))
      go_ret
      exact ⟨ret_i (by rw [hr.out]), hst2.below⟩
set_option maxHeartbeats 400000 in
theorem sPopularSums_any (b off cap : Nat) (l : List Int) (x y t : Int) (w : World) (hl : l.length ≤ 1099511627776) (hg : GrpAt w b off l) :
    Calls Try.prog 43 #[.agg #[.slice (some ⟨b, off, none⟩) l.length cap], .int .i64 x, .int .i64 y, .int .i64 t] w fun e w' => e = .returned (.int .i64 (popF l x y t)) ∧ Below w.heap.size w w' := by
  have hst := St.init cap 27 hg
  go_enter Try.func43, Try.ntmps43
  go_wp2_with fail
  refine (sSumTable_any _ _ _ _ _ _ _ hl hst.grp).mono ?_; rintro e w3 ⟨g, gc, rfl, hmade⟩
  have hst3 := hst.step hmade.below
  clear hst hg
  by_cases h : popOk l x y t = true
  · have hp := h
    simp only [popOk, Bool.and_eq_true] at hp
    obtain ⟨h2, ht⟩ := hp
    have h3 := two_iff.1 h2
    obtain ⟨m, A, B, hm, rfl, rfl, rfl, hA, hB⟩ := h3
    have hr := hid (popF_yes hm h)
    have htr := inB_iff.1 ht
    rw [tabF_yes hm hA hB] at hmade ⊢
    have hc := hmade.grp.nat0
    have hlen : (cst (tabN m A B)).length ≤ 24 := by rw [cst_length, tab_len]; exact hm.ord
    have hlen0 : 0 < (cst (tabN m A B)).length := by rw [cst_length, tab_len]; exact hm.pos
    have hlz : (((cst (tabN m A B)).length : Int) == 0) = false := by rw [beq_eq_false_iff_ne]; omega
    have hlen2 := hid (tab_len m A B)
    clear hmade hA hB h h2
    generalize tabN m A B = T at *
    go_wp2_with (first | (go_at_call 68; refine (l1In_any _ _ _ _).mono ?_; rintro e wN ⟨rfl, rfl⟩))
    go_loop [10, 11] (fun o i => ∃ k : Nat, i = .int .i64 k ∧ k ≤ (cst T).length ∧ o = .int .i64 (ofL (popTo T t k) : Nat)) (fun _ i => (cst T).length - (intOf i).toNat)
    case atStart => exact ⟨0, rfl, by omega, rfl⟩
    case round =>
      obtain ⟨k, rfl, hk, rfl⟩ := hrel
      by_cases hlt : k < (cst T).length
      · have hck := hc k hlt
        have hor := hid (ofL_orP (popTo_lt (T := T) (t := t) (k := k) (by omega)) (show k < 24 by omega))
        have hsh := shl1 (x := k) (by omega)
        have hpl := pw_le (x := k) (by omega)
        clear hc
        by_cases hge : t ≤ ((T.getD k 0 : Nat) : Int)
        · have hs : Hid (popTo T t (k + 1) = popTo T t k ++ [k]) := popTo_yes hge
          generalize T.getD k 0 = c at *
          go_wp2
          go_round
          case rel => exact ⟨k + 1, by go_num, by omega, by rw [hs.out, ← hor.out]⟩
          case measure => simp [intOf]; omega
        · have hs : Hid (popTo T t (k + 1) = popTo T t k) := popTo_no hge
          have hge' : ((T.getD k 0 : Nat) : Int) < t := by omega
          generalize T.getD k 0 = c at *
          go_wp2
          go_round
          case rel => exact ⟨k + 1, by go_num, by omega, by rw [hs.out]⟩
          case measure => simp [intOf]; omega
      · have he : Hid (popTo T t k = popTo T t (prodN m)) := by unfold Hid; rw [show k = prodN m from by rw [← hlen2.out, ← cst_length]; omega]
        go_wp2
        go_ret
        exact ⟨ret_i (by rw [hr.out, he.out]), hst3.below⟩
  · have hn : popOk l x y t = false := by simpa using h
    have hr := hid (popF_no hn)
    clear h
    rcases popOk_no hn with h1 | ⟨h1, h2⟩
    · rw [tabF_no h1] at hmade ⊢
      go_wp2
      go_ret
      exact ⟨ret_i (by rw [hr.out]), hst3.below⟩
    · obtain ⟨m, A, B, hm, rfl, rfl, rfl, hA, hB⟩ := two_iff.1 h1
      rw [tabF_yes hm hA hB] at hmade ⊢
      have hlen0 : 0 < (cst (tabN m A B)).length := by rw [cst_length, tab_len]; exact hm.pos
      have hlz : (((cst (tabN m A B)).length : Int) == 0) = false := by rw [beq_eq_false_iff_ne]; omega
      generalize tabN m A B = T at *
      go_wp2_with (first | (go_at_call 68; refine (l1In_any _ _ _ _).mono ?_; rintro e wN ⟨rfl, rfl⟩))
      go_ret
      exact ⟨ret_i (by rw [hr.out]), hst3.below⟩

/-! ### triples -/
def tripTo (T : List Nat) (C : Nat) (k : Nat) : Nat := ((memTo C k).map fun z => T.getD z 0).sum
theorem tripTo_yes {T : List Nat} {C k : Nat} (h : C.testBit k = true) : tripTo T C (k + 1) = tripTo T C k + T.getD k 0 := by
  unfold tripTo; rw [memTo_yes h, List.map_append, List.sum_append]; simp [-List.getD_eq_getElem?_getD]
theorem tripTo_no {T : List Nat} {C k : Nat} (h : C.testBit k = false) : tripTo T C (k + 1) = tripTo T C k := by
  unfold tripTo; rw [memTo_no h]
theorem tripTo_bd {T : List Nat} (hT : ∀ z, T.getD z 0 ≤ 600) (C k : Nat) : tripTo T C k ≤ k * 600 := by
  induction k with
  | zero => exact Nat.le_of_eq rfl
  | succ k ih =>
    by_cases h : C.testBit k = true
    · have h1 := tripTo_yes (T := T) h
      have := hT k; omega
    · have h1 := tripTo_no (T := T) (C := C) (k := k) (by simpa using h)
      omega
def tripF (l : List Int) (a b c : Int) : Int := if three l a b c = true then (tripTo (tabN (toN l) a.toNat b.toNat) c.toNat (prodN (toN l)) : Nat) else -1
theorem tripF_yes {m : List Nat} {A B C : Nat} (_hm : Ok m) (h : three (cst m) A B C = true) : tripF (cst m) A B C = (tripTo (tabN m A B) C (prodN m) : Nat) := by
  unfold tripF; rw [if_pos h, toN_cst, Int.toNat_natCast, Int.toNat_natCast, Int.toNat_natCast]
theorem tripF_no {l : List Int} {a b c : Int} (h : three l a b c = false) : tripF l a b c = -1 := by unfold tripF; rw [if_neg (by simp [h])]
set_option maxHeartbeats 400000 in
theorem tripleCount_any (b off cap : Nat) (l : List Int) (x y z : Int) (w : World) (hl : l.length ≤ 1099511627776) (hg : GrpAt w b off l) :
    Calls Try.prog 46 #[.agg #[.slice (some ⟨b, off, none⟩) l.length cap], .int .i64 x, .int .i64 y, .int .i64 z] w fun e w' => e = .returned (.int .i64 (tripF l x y z)) ∧ Below w.heap.size w w' := by
  have hst := St.init cap 27 hg
  have hst1 := hst.step ((Below.refl _ _).alloc (Nat.le_refl _) (.cells #[.int .i64 x, .int .i64 y, .int .i64 z] 3))
  have hg2 := GrpAt.three (w.alloc (.cells #[.slice (some ⟨b, off, none⟩) l.length cap] 27)) x y z 3 (w.heap.size + 1) (by simp)
  go_enter Try.func46, Try.ntmps46
  go_wp2_with fail
  refine (areSets_three _ _ _ _ _ _ _ _ _ _ hl hst1.grp hg2).mono ?_; rintro e w1 ⟨rfl, hb1⟩; have hst2 := hst1.step hb1; have hbox2 := hst2.box
  clear hst hst1 hg2 hb1 hg
  by_cases h : three l x y z = true
  · have h3 := three_iff.1 h
    obtain ⟨m, A, B, C, hm, rfl, rfl, rfl, rfl, hA, hB, hC⟩ := h3
    have hr := hid (tripF_yes hm h)
    have hC' : C < 16777216 := Nat.lt_of_lt_of_le hC hm.pow_le
    go_wp2_with fail
    refine (sumTable_yes _ _ _ _ _ _ _ hm hA hB hst2.grp).mono ?_; rintro e w3 ⟨g, gc, rfl, hmade⟩
    have hst3 := hst2.step hmade.below
    have hc := hmade.grp.nat0
    have hlen : (cst (tabN m A B)).length ≤ 24 := by rw [cst_length, tab_len]; exact hm.ord
    have hlen2 := hid (tab_len m A B)
    have hbd' := hid (tab_le m A B)
    clear hmade hst2 hbox2 hA hB hC h
    generalize tabN m A B = T at *
    go_wp2
    go_loop [9, 24] (fun o i => ∃ k : Nat, i = .int .i64 k ∧ k ≤ (cst T).length ∧ o = .int .i64 (tripTo T C k : Nat)) (fun _ i => (cst T).length - (intOf i).toNat)
    case atStart => exact ⟨0, rfl, by omega, rfl⟩
    case round =>
      obtain ⟨k, rfl, hk, rfl⟩ := hrel
      by_cases hlt : k < (cst T).length
      · have hck := hc k hlt
        have h1 := tripTo_bd hbd'.out C k
        have h2 := hbd'.out k
        clear hc
        by_cases hb : C.testBit k = true
        · have hs : Hid (tripTo T C (k + 1) = tripTo T C k + T.getD k 0) := tripTo_yes hb
          generalize T.getD k 0 = c at *
          generalize tripTo T C k = s at *
          go_wp2_with (first | (go_at_call 65; refine (in_any _ _ _ (by omega) (by omega)).mono ?_; rintro e wN ⟨rfl, rfl⟩))
          go_round
          case rel => exact ⟨k + 1, by go_num, by omega, by rw [hs.out]; go_num⟩
          case measure => simp [intOf]; omega
        · have hb' : C.testBit k = false := by simpa using hb
          have hs : Hid (tripTo T C (k + 1) = tripTo T C k) := tripTo_no hb'
          clear hb
          generalize T.getD k 0 = c at *
          go_wp2_with (first | (go_at_call 65; refine (in_any _ _ _ (by omega) (by omega)).mono ?_; rintro e wN ⟨rfl, rfl⟩))
          go_round
          case rel => exact ⟨k + 1, by go_num, by omega, by rw [hs.out]⟩
          case measure => simp [intOf]; omega
      · have he : Hid (tripTo T C k = tripTo T C (prodN m)) := by unfold Hid; rw [show k = prodN m from by rw [← hlen2.out, ← cst_length]; omega]
        go_wp2
        go_ret
        exact ⟨ret_i (by rw [hr.out, he.out]), hst3.below⟩
  · have hn : three l x y z = false := by simpa using h
    have hr := hid (tripF_no hn)
    clear h
    go_wp2
    go_ret
    exact ⟨ret_i (by rw [hr.out]), hst2.below⟩
set_option maxHeartbeats 400000 in
theorem sTripleCount_any (b off cap : Nat) (l : List Int) (x y z : Int) (w : World) (hl : l.length ≤ 1099511627776) (hg : GrpAt w b off l) :
    Calls Try.prog 45 #[.agg #[.slice (some ⟨b, off, none⟩) l.length cap], .int .i64 x, .int .i64 y, .int .i64 z] w fun e w' => e = .returned (.int .i64 (tripF l x y z)) ∧ Below w.heap.size w w' := by
  have hst := St.init cap 27 hg
  go_enter Try.func45, Try.ntmps45
  go_wp2_with fail
  refine (sSumTable_any _ _ _ _ _ _ _ hl hst.grp).mono ?_; rintro e w3 ⟨g, gc, rfl, hmade⟩
  have hst3 := hst.step hmade.below
  have hbox3 := hst3.box
  clear hst hg
  by_cases h : three l x y z = true
  · have h3 := three_iff.1 h
    have y3 := (three_yes h).2.2
    obtain ⟨m, A, B, C, hm, rfl, rfl, rfl, rfl, hA, hB, hC⟩ := h3
    have hr := hid (tripF_yes hm h)
    have hC' : C < 16777216 := Nat.lt_of_lt_of_le hC hm.pow_le
    rw [tabF_yes hm hA hB] at hmade ⊢
    have hgr := hmade.grp
    have hlen : (cst (tabN m A B)).length ≤ 24 := by rw [cst_length, tab_len]; exact hm.ord
    have hlen0 : 0 < (cst (tabN m A B)).length := by rw [cst_length, tab_len]; exact hm.pos
    have hlz : (((cst (tabN m A B)).length : Int) == 0) = false := by rw [beq_eq_false_iff_ne]; omega
    have hlen2 := hid (tab_len m A B)
    have hbd' := hid (tab_le m A B)
    clear hmade hA hB hC h
    generalize tabN m A B = T at *
    go_wp2_with fail
    refine (sIsSet_any _ _ _ _ _ _ hl hst3.grp).mono ?_; rintro e w4 ⟨rfl, hb4⟩; have hst4 := hst3.step hb4; have hc := (hgr.below hb4).nat0
    clear hst3 hb4 hgr hbox3
    go_wp2
    go_loop [10, 11] (fun o i => ∃ k : Nat, i = .int .i64 k ∧ k ≤ (cst T).length ∧ o = .int .i64 (tripTo T C k : Nat)) (fun _ i => (cst T).length - (intOf i).toNat)
    case atStart => exact ⟨0, rfl, by omega, rfl⟩
    case round =>
      obtain ⟨k, rfl, hk, rfl⟩ := hrel
      by_cases hlt : k < (cst T).length
      · have hck := hc k hlt
        have h1 := tripTo_bd hbd'.out C k
        have h2 := hbd'.out k
        clear hc
        by_cases hb : C.testBit k = true
        · have hs : Hid (tripTo T C (k + 1) = tripTo T C k + T.getD k 0) := tripTo_yes hb
          have htb : (bits BinOp.and IntKind.i64 ((C : Int) / 2 ^ k) 1 == 1) = true := by rw [shr_test k hC']; exact hb
          generalize T.getD k 0 = c at *
          generalize tripTo T C k = s at *
          go_wp2
          go_round
          case rel => exact ⟨k + 1, by go_num, by omega, by rw [hs.out]; go_num⟩
          case measure => simp [intOf]; omega
        · have hb' : C.testBit k = false := by simpa using hb
          have hs : Hid (tripTo T C (k + 1) = tripTo T C k) := tripTo_no hb'
          have htb : (bits BinOp.and IntKind.i64 ((C : Int) / 2 ^ k) 1 == 1) = false := by rw [shr_test k hC']; exact hb'
          clear hb
          generalize T.getD k 0 = c at *
          go_wp2
          go_round
          case rel => exact ⟨k + 1, by go_num, by omega, by rw [hs.out]⟩
          case measure => simp [intOf]; omega
      · have he : Hid (tripTo T C k = tripTo T C (prodN m)) := by unfold Hid; rw [show k = prodN m from by rw [← hlen2.out, ← cst_length]; omega]
        go_wp2
        go_ret
        exact ⟨ret_i (by rw [hr.out, he.out]), hst4.below⟩
  · have hn : three l x y z = false := by simpa using h
    have hr := hid (tripF_no hn)
    clear h
    by_cases h2 : two l x y = true
    · have h3 : isSetB l z = false := by simp only [three] at hn; simp only [two] at h2; simpa [h2] using hn
      obtain ⟨m, A, B, hm, rfl, rfl, rfl, hA, hB⟩ := two_iff.1 h2
      rw [tabF_yes hm hA hB] at hmade ⊢
      have hlen0 : 0 < (cst (tabN m A B)).length := by rw [cst_length, tab_len]; exact hm.pos
      have hlz : (((cst (tabN m A B)).length : Int) == 0) = false := by rw [beq_eq_false_iff_ne]; omega
      clear hmade
      generalize tabN m A B = T at *
      go_wp2_with fail
      refine (sIsSet_any _ _ _ _ _ _ hl hst3.grp).mono ?_; rintro e w4 ⟨rfl, hb4⟩; have hst4 := hst3.step hb4
      go_wp2
      go_ret
      exact ⟨ret_i (by rw [hr.out]), hst4.below⟩
    · have h2' : two l x y = false := by simpa using h2
      rw [tabF_no h2'] at hmade ⊢
      go_wp2
      go_ret
      exact ⟨ret_i (by rw [hr.out]), hst3.below⟩
end Go.Proofs.Ytalflbnplgmlpaa
