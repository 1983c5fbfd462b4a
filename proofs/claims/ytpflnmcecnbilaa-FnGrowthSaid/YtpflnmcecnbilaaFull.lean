/-
  Contracts: whether several numbers are sets.
-/
import Derived.Test.YtpflnmcecnbilaaGrp2
import Derived.Test.YtpflnmcecnbilaaMem
namespace Go.Proofs.Ytpflnmcecnbilaa
open Go.RowKit

def allSets (l L : List Int) : Bool := L.all (isSetB l) && grp l
theorem allSets_no {l L : List Int} {k : Nat} (hk : k < L.length) (h : isSetB l (L.getD k 0) = false) : allSets l L = false := by
  rw [Bool.eq_false_iff]; intro hc
  simp only [allSets, Bool.and_eq_true, List.all_eq_true] at hc
  have := hc.1 _ (getD_mem L 0 k hk)
  rw [h] at this; cases this
theorem allSets_end {l L : List Int} (h : ∀ k, k < L.length → isSetB l (L.getD k 0) = true) : allSets l L = grp l := by
  have : L.all (isSetB l) = true := by
    rw [List.all_eq_true]; intro x hx
    obtain ⟨i, hi, rfl⟩ := List.mem_iff_getElem.1 hx
    have := h i hi
    simpa [List.getD_eq_getElem?_getD, List.getElem?_eq_getElem hi] using this
  rw [allSets, this, Bool.true_and]
theorem isSetB_grp {l : List Int} {a : Int} (h : isSetB l a = true) : grp l = true := by
  simp only [isSetB, Bool.and_eq_true] at h; exact h.1.1
/-- two sets, three sets, two sets that are not empty -/
def two (l : List Int) (a b : Int) : Bool := isSetB l a && isSetB l b
def three (l : List Int) (a b c : Int) : Bool := isSetB l a && isSetB l b && isSetB l c
def full (l : List Int) (a b : Int) : Bool := isSetB l a && isSetB l b && decide (a ≠ 0) && decide (b ≠ 0)
theorem allSets_two (l : List Int) (a b : Int) : allSets l [a, b] = two l a b := by
  simp only [allSets, two, List.all_cons, List.all_nil, Bool.and_true]
  cases ha : isSetB l a
  · simp
  · rw [isSetB_grp ha]; simp
theorem allSets_three (l : List Int) (a b c : Int) : allSets l [a, b, c] = three l a b c := by
  simp only [allSets, three, List.all_cons, List.all_nil, Bool.and_true]
  cases ha : isSetB l a
  · simp
  · rw [isSetB_grp ha]; simp
theorem isSetB_of {m : List Nat} (hm : Ok m) {a : Int} (h : isSetB (cst m) a = true) : ∃ A : Nat, a = A ∧ A < 2 ^ prodN m := by
  obtain ⟨m', A, hm', e, rfl, hA⟩ := isSetB_iff.1 h
  have : m' = m := by rw [← toN_cst m', ← e, toN_cst]
  subst this
  exact ⟨A, rfl, hA⟩
theorem two_iff {l : List Int} {a b : Int} : two l a b = true ↔ ∃ m A B, Ok m ∧ l = cst m ∧ a = ((A : Nat) : Int) ∧ b = ((B : Nat) : Int) ∧ A < 2 ^ prodN m ∧ B < 2 ^ prodN m := by
  constructor
  · intro h
    simp only [two, Bool.and_eq_true] at h
    obtain ⟨m, A, hm, rfl, rfl, hA⟩ := isSetB_iff.1 h.1
    obtain ⟨B, rfl, hB⟩ := isSetB_of hm h.2
    exact ⟨m, A, B, hm, rfl, rfl, rfl, hA, hB⟩
  · rintro ⟨m, A, B, hm, rfl, rfl, rfl, hA, hB⟩
    simp [two, isSetB_nat hm hA, isSetB_nat hm hB]
theorem three_iff {l : List Int} {a b c : Int} : three l a b c = true ↔ ∃ m A B C, Ok m ∧ l = cst m ∧ a = ((A : Nat) : Int) ∧ b = ((B : Nat) : Int) ∧ c = ((C : Nat) : Int) ∧ A < 2 ^ prodN m ∧ B < 2 ^ prodN m ∧ C < 2 ^ prodN m := by
  constructor
  · intro h
    simp only [three, Bool.and_eq_true] at h
    obtain ⟨m, A, hm, rfl, rfl, hA⟩ := isSetB_iff.1 h.1.1
    obtain ⟨B, rfl, hB⟩ := isSetB_of hm h.1.2
    obtain ⟨C, rfl, hC⟩ := isSetB_of hm h.2
    exact ⟨m, A, B, C, hm, rfl, rfl, rfl, rfl, hA, hB, hC⟩
  · rintro ⟨m, A, B, C, hm, rfl, rfl, rfl, rfl, hA, hB, hC⟩
    simp [three, isSetB_nat hm hA, isSetB_nat hm hB, isSetB_nat hm hC]
theorem full_iff {l : List Int} {a b : Int} : full l a b = true ↔ ∃ m A B, Ok m ∧ l = cst m ∧ a = ((A : Nat) : Int) ∧ b = ((B : Nat) : Int) ∧ A < 2 ^ prodN m ∧ B < 2 ^ prodN m ∧ A ≠ 0 ∧ B ≠ 0 := by
  constructor
  · intro h
    simp only [full, Bool.and_eq_true, decide_eq_true_eq] at h
    obtain ⟨m, A, hm, rfl, rfl, hA⟩ := isSetB_iff.1 h.1.1.1
    obtain ⟨B, rfl, hB⟩ := isSetB_of hm h.1.1.2
    exact ⟨m, A, B, hm, rfl, rfl, rfl, hA, hB, by omega, by omega⟩
  · rintro ⟨m, A, B, hm, rfl, rfl, rfl, hA, hB, h1, h2⟩
    simp [full, isSetB_nat hm hA, isSetB_nat hm hB]; omega
theorem two_no {l : List Int} {x y : Int} (h : two l x y = false) : isSetB l x = false ∨ (isSetB l x = true ∧ isSetB l y = false) := by
  simp only [two] at h
  cases h1 : isSetB l x <;> cases h2 : isSetB l y <;> simp_all
theorem three_no {l : List Int} {x y z : Int} (h : three l x y z = false) : isSetB l x = false ∨ (isSetB l x = true ∧ isSetB l y = false) ∨ (isSetB l x = true ∧ isSetB l y = true ∧ isSetB l z = false) := by
  simp only [three] at h
  cases h1 : isSetB l x <;> cases h2 : isSetB l y <;> cases h3 : isSetB l z <;> simp_all
theorem full_no {l : List Int} {x y : Int} (h : full l x y = false) : isSetB l x = false ∨ (isSetB l x = true ∧ isSetB l y = false) ∨ (isSetB l x = true ∧ isSetB l y = true ∧ (x == 0) = true) ∨ (isSetB l x = true ∧ isSetB l y = true ∧ (x == 0) = false ∧ (y == 0) = true) := by
  simp only [full] at h
  cases h1 : isSetB l x <;> cases h2 : isSetB l y <;> by_cases h3 : x = 0 <;> by_cases h4 : y = 0 <;> simp_all
theorem full_yes {l : List Int} {x y : Int} (h : full l x y = true) : isSetB l x = true ∧ isSetB l y = true ∧ (x == 0) = false ∧ (y == 0) = false := by
  simp only [full] at h
  cases h1 : isSetB l x <;> cases h2 : isSetB l y <;> by_cases h3 : x = 0 <;> by_cases h4 : y = 0 <;> simp_all
theorem two_yes {l : List Int} {x y : Int} (h : two l x y = true) : isSetB l x = true ∧ isSetB l y = true := by simpa [two] using h
theorem three_yes {l : List Int} {x y z : Int} (h : three l x y z = true) : isSetB l x = true ∧ isSetB l y = true ∧ isSetB l z = true := by
  simp only [three, Bool.and_eq_true] at h; exact ⟨h.1.1, h.1.2, h.2⟩
theorem GrpAt.two (w : World) (a b : Int) (t : TypeId) (n : Nat) (hn : n = w.heap.size) : GrpAt (w.alloc (.cells #[.int .i64 a, .int .i64 b] t)) n 0 [a, b] :=
  ⟨by simp [hn], fun i hi => by
    rw [World.cell?_alloc_at _ _ _ _ hn]
    simp at hi
    rcases (by omega : i = 0 ∨ i = 1) with rfl | rfl <;> rfl⟩
theorem GrpAt.three (w : World) (a b c : Int) (t : TypeId) (n : Nat) (hn : n = w.heap.size) : GrpAt (w.alloc (.cells #[.int .i64 a, .int .i64 b, .int .i64 c] t)) n 0 [a, b, c] :=
  ⟨by simp [hn], fun i hi => by
    rw [World.cell?_alloc_at _ _ _ _ hn]
    simp at hi
    rcases (by omega : i = 0 ∨ i = 1 ∨ i = 2) with rfl | rfl | rfl <;> rfl⟩
set_option maxHeartbeats 400000 in
theorem areSets_any (b off cap b2 cap2 : Nat) (l L : List Int) (w : World) (hl : l.length ≤ 1099511627776) (hL : L.length ≤ 1099511627776) (hg : GrpAt w b off l) (hg2 : GrpAt w b2 0 L) :
    Calls Try.prog 122 #[.agg #[.slice (some ⟨b, off, none⟩) l.length cap], .slice (some ⟨b2, 0, none⟩) L.length cap2] w fun e w' => e = .returned (.bool (allSets l L)) ∧ Below w.heap.size w w' := by
  have hst := St.init cap 26 hg
  have hsl : StL w b off cap l b2 L _ := ⟨hst, hg2.alloc _⟩
  go_enter Try.func122, Try.ntmps122
  go_wp2
  go_loopw [9] (fun i wr => ∃ k : Nat, i = .int .i64 k ∧ k ≤ L.length ∧ Hid (∀ j, j < k → isSetB l (L.getD j 0) = true) ∧ StL w b off cap l b2 L wr) (fun i _ => L.length - (intOf i).toNat)
  case atStart => exact ⟨0, rfl, by omega, fun j hj => by omega, hsl⟩
  case round =>
    rename_i wr
    obtain ⟨k, rfl, hk, hall, hstr⟩ := hrel
    have hbox := hstr.st.box
    clear hst hsl
    by_cases hlt : k < L.length
    · have hck := hstr.lst.cell0 k hlt
      by_cases hs : isSetB l (L.getD k 0) = true
      · have hall' : Hid (∀ j, j < k + 1 → isSetB l (L.getD j 0) = true) := fun j hj => by
          by_cases e : j = k
          · rw [e]; exact hs
          · exact hall.out j (by omega)
        generalize L.getD k 0 = x at *
        go_wp2_with (go_at_call 132; refine (isSet_any _ _ _ _ _ _ hl hstr.st.grp).mono ?_; rintro e w1 ⟨rfl, hb1⟩; have hst1 := hstr.step hb1; clear hb1)
        go_roundw
        case rel => exact ⟨k + 1, by go_num, by omega, hall', hst1⟩
        case measure => simp [intOf]; omega
      · have hf : isSetB l (L.getD k 0) = false := by simpa using hs
        have he := hid (allSets_no hlt hf)
        clear hs
        generalize L.getD k 0 = x at *
        go_wp2_with (go_at_call 132; refine (isSet_any _ _ _ _ _ _ hl hstr.st.grp).mono ?_; rintro e w1 ⟨rfl, hb1⟩; have hst1 := hstr.step hb1; clear hb1)
        go_ret
        exact ⟨ret_b (by rw [he.out]), hst1.st.below⟩
    · have he := hid (allSets_end (l := l) (L := L) (fun j hj => hall.out j (by omega)))
      go_wp2_with (go_at_call 170; refine (isGroup_any _ _ _ _ _ hl hstr.st.grp).mono ?_; rintro e w1 ⟨rfl, hb1⟩; have hst1 := hstr.step hb1; clear hb1)
      go_ret
      exact ⟨ret_b (by rw [he.out]), hst1.st.below⟩
theorem areSets_two (b off cap b2 cap2 : Nat) (l : List Int) (x y : Int) (w : World) (hl : l.length ≤ 1099511627776) (hg : GrpAt w b off l) (hg2 : GrpAt w b2 0 [x, y]) :
    Calls Try.prog 122 #[.agg #[.slice (some ⟨b, off, none⟩) l.length cap], .slice (some ⟨b2, 0, none⟩) 2 cap2] w fun e w' => e = .returned (.bool (two l x y)) ∧ Below w.heap.size w w' := by
  have h := areSets_any b off cap b2 cap2 l [x, y] w hl (by simp) hg hg2
  rw [allSets_two] at h; exact h
theorem areSets_three (b off cap b2 cap2 : Nat) (l : List Int) (x y z : Int) (w : World) (hl : l.length ≤ 1099511627776) (hg : GrpAt w b off l) (hg2 : GrpAt w b2 0 [x, y, z]) :
    Calls Try.prog 122 #[.agg #[.slice (some ⟨b, off, none⟩) l.length cap], .slice (some ⟨b2, 0, none⟩) 3 cap2] w fun e w' => e = .returned (.bool (three l x y z)) ∧ Below w.heap.size w w' := by
  have h := areSets_any b off cap b2 cap2 l [x, y, z] w hl (by simp) hg hg2
  rw [allSets_three] at h; exact h
set_option maxHeartbeats 400000 in
theorem areFull_any (b off cap : Nat) (l : List Int) (x y : Int) (w : World) (hl : l.length ≤ 1099511627776) (hg : GrpAt w b off l) :
    Calls Try.prog 113 #[.agg #[.slice (some ⟨b, off, none⟩) l.length cap], .int .i64 x, .int .i64 y] w fun e w' => e = .returned (.bool (full l x y)) ∧ Below w.heap.size w w' := by
  have hst := St.init cap 26 hg
  have hst1 := hst.step ((Below.refl _ _).alloc (Nat.le_refl _) (.cells #[.int .i64 x, .int .i64 y] 3))
  have hg2 := GrpAt.two (w.alloc (.cells #[.slice (some ⟨b, off, none⟩) l.length cap] 26)) x y 3 (w.heap.size + 1) (by simp)
  have hfu : Hid (full l x y = (two l x y && decide (x ≠ 0) && decide (y ≠ 0))) := rfl
  go_enter Try.func113, Try.ntmps113
  go_wp2_with fail
  refine (areSets_two _ _ _ _ _ _ _ _ _ hl hst1.grp hg2).mono ?_; rintro e w1 ⟨rfl, hb1⟩; have hst2 := hst1.step hb1
  clear hst hst1 hg2 hb1 hg
  by_cases h2 : two l x y = true
  · by_cases hx : x = 0
    · have hxb : (x != 0) = false := by simp [hx]
      have hr : Hid (full l x y = false) := by unfold Hid; rw [hfu.out]; simp [hx]
      clear hx
      go_wp2
      go_ret
      exact ⟨ret_b (by rw [hr.out]), hst2.below⟩
    · have hxb : (x != 0) = true := by simp [hx]
      have hr : Hid (full l x y = (y != 0)) := by unfold Hid; rw [hfu.out, h2]; simp [hx]; rw [Bool.eq_iff_iff]; simp
      clear hx
      go_wp2
      go_ret
      exact ⟨ret_b (by rw [hr.out]), hst2.below⟩
  · have h2' : two l x y = false := by simpa using h2
    have hr : Hid (full l x y = false) := by unfold Hid; rw [hfu.out, h2']; rfl
    clear h2
    go_wp2
    go_ret
    exact ⟨ret_b (by rw [hr.out]), hst2.below⟩
end Go.Proofs.Ytpflnmcecnbilaa
