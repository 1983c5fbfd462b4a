/-
  Plain facts on lists of orders, elements and sets as bits of a number. No program in sight.
-/
namespace Go.Proofs.Ytpflnmcecnbilaa

/-! ### Orders of a group -/
def prodN : List Nat → Nat | [] => 1 | o :: r => o * prodN r
def prodI : List Int → Int | [] => 1 | o :: r => o * prodI r
structure Ok (m : List Nat) : Prop where
  len : m.length ≤ 3
  rng : ∀ o ∈ m, 2 ≤ o ∧ o ≤ 24
  ord : prodN m ≤ 24
/-- a list of naturals as integers -/
def cst (m : List Nat) : List Int := m.map fun (n : Nat) => (n : Int)
def grp (l : List Int) : Bool := decide (l.length ≤ 3) && l.all (fun o => decide (2 ≤ o) && decide (o ≤ 24)) && decide (prodI l ≤ 24)
def toN (l : List Int) : List Nat := l.map Int.toNat

theorem cst_length (m : List Nat) : (cst m).length = m.length := by simp [cst]
theorem cst_getD (m : List Nat) (k : Nat) : (cst m).getD k 0 = ((m.getD k 0 : Nat) : Int) := by
  simp only [cst, List.getD_eq_getElem?_getD, List.getElem?_map]
  cases m[k]? <;> simp
theorem toN_cst (m : List Nat) : toN (cst m) = m := by simp [toN, cst, Function.comp_def]
theorem prodI_cst (m : List Nat) : prodI (cst m) = ((prodN m : Nat) : Int) := by
  induction m with
  | nil => rfl
  | cons o r ih => simp only [cst, List.map_cons, prodI, prodN] at *; rw [ih]; simp
theorem cst_toN {l : List Int} (h : ∀ o ∈ l, 0 ≤ o) : cst (toN l) = l := by
  induction l with
  | nil => rfl
  | cons o r ih =>
    simp only [cst, toN, List.map_cons, List.map_map] at *
    rw [ih (fun x hx => h x (by simp [hx]))]
    have := h o (by simp)
    rw [Int.toNat_of_nonneg this]
theorem grp_ok {l : List Int} (h : grp l = true) : ∃ m, Ok m ∧ l = cst m := by
  simp only [grp, Bool.and_eq_true, decide_eq_true_eq, List.all_eq_true] at h
  obtain ⟨⟨h1, h2⟩, h3⟩ := h
  have hc : cst (toN l) = l := cst_toN fun o ho => by have := (h2 o ho).1; omega
  refine ⟨toN l, ⟨by simpa [toN] using h1, ?_, ?_⟩, hc.symm⟩
  · intro o ho
    simp only [toN, List.mem_map] at ho
    obtain ⟨z, hz, rfl⟩ := ho
    have := h2 z hz
    omega
  · have := prodI_cst (toN l)
    rw [hc] at this
    omega
theorem ok_grp {m : List Nat} (h : Ok m) : grp (cst m) = true := by
  simp only [grp, Bool.and_eq_true, decide_eq_true_eq, List.all_eq_true, cst_length, prodI_cst]
  refine ⟨⟨h.len, ?_⟩, by have := h.ord; omega⟩
  intro o ho
  simp only [cst, List.mem_map] at ho
  obtain ⟨z, hz, rfl⟩ := ho
  have := h.rng z hz
  omega
theorem prodN_pos {m : List Nat} (h : ∀ o ∈ m, 2 ≤ o) : 0 < prodN m := by
  induction m with
  | nil => simp [prodN]
  | cons o r ih =>
    simp only [prodN]
    have h1 := h o (by simp)
    have h2 := ih fun x hx => h x (by simp [hx])
    exact Nat.mul_pos (by omega) h2
theorem Ok.pos {m : List Nat} (h : Ok m) : 0 < prodN m := prodN_pos fun o ho => (h.rng o ho).1
theorem prodN_append (a b : List Nat) : prodN (a ++ b) = prodN a * prodN b := by
  induction a with
  | nil => simp [prodN]
  | cons o r ih => simp [prodN, ih, Nat.mul_assoc]
theorem prodN_split (m : List Nat) (k : Nat) : prodN (m.take k) * prodN (m.drop k) = prodN m := by
  rw [← prodN_append, List.take_append_drop]
theorem take_snoc {α : Type} (m : List α) (d : α) (k : Nat) (h : k < m.length) : m.take (k + 1) = m.take k ++ [m.getD k d] := by
  rw [List.take_succ_eq_append_getElem h]; simp [List.getD_eq_getElem?_getD, List.getElem?_eq_getElem h]
theorem drop_cons {α : Type} (m : List α) (d : α) (k : Nat) (h : k < m.length) : m.drop k = m.getD k d :: m.drop (k + 1) := by
  rw [List.drop_eq_getElem_cons h]; simp [List.getD_eq_getElem?_getD, List.getElem?_eq_getElem h]
theorem getD_mem {α : Type} (m : List α) (d : α) (k : Nat) (h : k < m.length) : m.getD k d ∈ m := by
  simp [List.getD_eq_getElem?_getD, List.getElem?_eq_getElem h]
theorem Ok.ath {m : List Nat} (h : Ok m) {k : Nat} (hk : k < m.length) : 2 ≤ m.getD k 0 ∧ m.getD k 0 ≤ 24 := h.rng _ (getD_mem m 0 k hk)
theorem Ok.drop_pos {m : List Nat} (h : Ok m) (k : Nat) : 0 < prodN (m.drop k) := prodN_pos fun o ho => (h.rng o (List.mem_of_mem_drop ho)).1
theorem Ok.take_pos {m : List Nat} (h : Ok m) (k : Nat) : 0 < prodN (m.take k) := prodN_pos fun o ho => (h.rng o (List.mem_of_mem_take ho)).1
theorem Ok.take_le {m : List Nat} (h : Ok m) (k : Nat) : prodN (m.take k) ≤ 24 := by
  have h1 := prodN_split m k
  have h2 := h.drop_pos k
  have h3 := h.ord
  have : prodN (m.take k) * 1 ≤ prodN (m.take k) * prodN (m.drop k) := Nat.mul_le_mul_left _ h2
  omega

/-! ### Elements -/
def addN : List Nat → Nat → Nat → Nat
  | [], _, _ => 0
  | o :: r, x, y => (x % o + y % o) % o + o * addN r (x / o) (y / o)
def negN : List Nat → Nat → Nat
  | [], _ => 0
  | o :: r, x => (o - x % o) % o + o * negN r (x / o)

theorem addN_lt {m : List Nat} (h : ∀ o ∈ m, 2 ≤ o) (x y : Nat) : addN m x y < prodN m := by
  induction m generalizing x y with
  | nil => simp [addN, prodN]
  | cons o r ih =>
    simp only [addN, prodN]
    have h1 := h o (by simp)
    have h2 := ih (fun z hz => h z (by simp [hz])) (x / o) (y / o)
    have h3 := Nat.mod_lt (x % o + y % o) (show o > 0 by omega)
    have h4 : o * (addN r (x / o) (y / o) + 1) ≤ o * prodN r := Nat.mul_le_mul_left _ h2
    rw [Nat.mul_add] at h4
    omega
theorem negN_lt {m : List Nat} (h : ∀ o ∈ m, 2 ≤ o) (x : Nat) : negN m x < prodN m := by
  induction m generalizing x with
  | nil => simp [negN, prodN]
  | cons o r ih =>
    simp only [negN, prodN]
    have h1 := h o (by simp)
    have h2 := ih (fun z hz => h z (by simp [hz])) (x / o)
    have h3 := Nat.mod_lt (o - x % o) (show o > 0 by omega)
    have h4 : o * (negN r (x / o) + 1) ≤ o * prodN r := Nat.mul_le_mul_left _ h2
    rw [Nat.mul_add] at h4
    omega
theorem addN_comm (m : List Nat) (x y : Nat) : addN m x y = addN m y x := by
  induction m generalizing x y with
  | nil => rfl
  | cons o r ih => simp only [addN]; rw [ih, Nat.add_comm (x % o)]
theorem addN_assoc {m : List Nat} (h : ∀ o ∈ m, 2 ≤ o) (x y z : Nat) : addN m (addN m x y) z = addN m x (addN m y z) := by
  induction m generalizing x y z with
  | nil => rfl
  | cons o r ih =>
    have h1 := h o (by simp)
    have e1 : ∀ u v : Nat, u < o → (u + o * v) % o = u ∧ (u + o * v) / o = v := fun u v hu => by
      constructor
      · rw [Nat.add_mul_mod_self_left, Nat.mod_eq_of_lt hu]
      · rw [Nat.add_mul_div_left _ _ (by omega), Nat.div_eq_of_lt hu, Nat.zero_add]
    have a := e1 ((x % o + y % o) % o) (addN r (x / o) (y / o)) (Nat.mod_lt _ (by omega))
    have b := e1 ((y % o + z % o) % o) (addN r (y / o) (z / o)) (Nat.mod_lt _ (by omega))
    simp only [addN]
    rw [a.1, a.2, b.1, b.2, ih (fun z hz => h z (by simp [hz]))]
    congr 1
    simp only [Nat.mod_add_mod, Nat.add_mod_mod, Nat.add_assoc]
theorem addN_zero {m : List Nat} (h : ∀ o ∈ m, 2 ≤ o) {x : Nat} (hx : x < prodN m) : addN m x 0 = x := by
  induction m generalizing x with
  | nil => simp [addN, prodN] at *; omega
  | cons o r ih =>
    have h1 := h o (by simp)
    simp only [addN, prodN] at *
    have hd : x / o < prodN r := Nat.div_lt_of_lt_mul hx
    simp only [Nat.zero_mod, Nat.zero_div, Nat.add_zero, Nat.mod_mod]
    rw [ih (fun z hz => h z (by simp [hz])) hd]
    exact Nat.mod_add_div x o
theorem addN_neg {m : List Nat} (h : ∀ o ∈ m, 2 ≤ o) (x : Nat) : addN m x (negN m x) = 0 := by
  induction m generalizing x with
  | nil => rfl
  | cons o r ih =>
    have h1 := h o (by simp)
    have hb := Nat.mod_lt (o - x % o) (show o > 0 by omega)
    have hx := Nat.mod_lt x (show o > 0 by omega)
    simp only [addN, negN]
    have e1 : ((o - x % o) % o + o * negN r (x / o)) % o = (o - x % o) % o := by rw [Nat.add_mul_mod_self_left, Nat.mod_mod]
    have e2 : ((o - x % o) % o + o * negN r (x / o)) / o = negN r (x / o) := by rw [Nat.add_mul_div_left _ _ (by omega), Nat.div_eq_of_lt hb, Nat.zero_add]
    rw [e1, e2, ih fun z hz => h z (by simp [hz])]
    rw [Nat.add_mod_mod, show x % o + (o - x % o) = o from by omega, Nat.mod_self]
    simp

/-! ### Sets: bits of a number -/
/-- the power of two, closed to simp -/
def pw (x : Nat) : Nat := 2 ^ x
theorem pw_eq (x : Nat) : pw x = 2 ^ x := rfl
theorem pw_shl (x : Nat) : 1 <<< x = pw x := by rw [Nat.one_shiftLeft]; rfl
theorem pw_le {x : Nat} (h : x ≤ 24) : 1 ≤ pw x ∧ pw x ≤ 16777216 := ⟨Nat.one_le_two_pow, Nat.pow_le_pow_right (n := 2) (j := 24) (by omega) h⟩
theorem testBit_pw (x i : Nat) : (pw x).testBit i = decide (x = i) := by rw [pw_eq, Nat.testBit_two_pow]
/-- the elements below 24 (in ascending order) -/
def mem (A : Nat) : List Nat := (List.range 24).filter fun i => A.testBit i
def card (A : Nat) : Nat := (mem A).length
/-- the set of a list -/
def ofL (L : List Nat) : Nat := L.foldl (fun acc x => acc ||| pw x) 0
theorem testBit_foldl_or (L : List Nat) (a i : Nat) : (L.foldl (fun acc x => acc ||| pw x) a).testBit i = (a.testBit i || L.contains i) := by
  induction L generalizing a with
  | nil => simp
  | cons x r ih =>
    simp only [List.foldl_cons]
    rw [ih, Nat.testBit_or, testBit_pw, List.contains_cons]
    by_cases h : x = i
    · subst h; simp
    · have : (i == x) = false := by simp; omega
      simp [h, this]
theorem testBit_ofL (L : List Nat) (i : Nat) : (ofL L).testBit i = L.contains i := by simp [ofL, testBit_foldl_or]
theorem ofL_append (L K : List Nat) : ofL (L ++ K) = ofL L ||| ofL K := by
  apply Nat.eq_of_testBit_eq; intro i
  rw [Nat.testBit_or, testBit_ofL, testBit_ofL, testBit_ofL, Bool.eq_iff_iff]; simp
theorem ofL_snoc (L : List Nat) (x : Nat) : ofL (L ++ [x]) = ofL L ||| pw x := by simp [ofL]
theorem ofL_congr {L K : List Nat} (h : ∀ i, i ∈ L ↔ i ∈ K) : ofL L = ofL K := by
  apply Nat.eq_of_testBit_eq; intro i
  rw [testBit_ofL, testBit_ofL, Bool.eq_iff_iff]; simp [h]
theorem lt_two_pow_of_bits {A n : Nat} (h : ∀ i, n ≤ i → A.testBit i = false) : A < 2 ^ n := by
  rcases Nat.lt_or_ge A (2 ^ n) with h' | h'
  · exact h'
  · obtain ⟨i, hi, hb⟩ := Nat.exists_ge_and_testBit_of_ge_two_pow h'
    rw [h i hi] at hb; cases hb
theorem ofL_lt {L : List Nat} {n : Nat} (h : ∀ i ∈ L, i < n) : ofL L < 2 ^ n := by
  apply lt_two_pow_of_bits
  intro i hi
  rw [testBit_ofL]
  rw [Bool.eq_false_iff]
  intro hc
  have := h i (by simpa using hc)
  omega
theorem mem_mem {A i : Nat} (h : A < 2 ^ 24) : i ∈ mem A ↔ A.testBit i = true := by
  simp only [mem, List.mem_filter, List.mem_range]
  constructor
  · exact fun h => h.2
  · intro hb
    refine ⟨?_, hb⟩
    rcases Nat.lt_or_ge i 24 with h' | h'
    · exact h'
    · rw [Nat.testBit_lt_two_pow (Nat.lt_of_lt_of_le h (Nat.pow_le_pow_right (by omega) h'))] at hb; cases hb
theorem mem_lt {A i : Nat} (h : i ∈ mem A) : i < 24 := by simp [mem] at h; exact h.1
theorem mem_testBit {A i : Nat} (h : i ∈ mem A) : A.testBit i = true := by simp [mem] at h; exact h.2
theorem ofL_mem {A : Nat} (h : A < 2 ^ 24) : ofL (mem A) = A := by
  apply Nat.eq_of_testBit_eq; intro i
  rw [testBit_ofL, Bool.eq_iff_iff]; simp [mem_mem h]
theorem card_le (A : Nat) : card A ≤ 24 := by
  have := List.length_filter_le (fun i => A.testBit i) (List.range 24)
  simpa [card, mem] using this
/-- the elements below k -/
def memTo (A k : Nat) : List Nat := (List.range k).filter fun i => A.testBit i
theorem memTo_zero (A : Nat) : memTo A 0 = [] := rfl
theorem memTo_yes {A k : Nat} (h : A.testBit k = true) : memTo A (k + 1) = memTo A k ++ [k] := by simp [memTo, List.range_succ, h]
theorem memTo_no {A k : Nat} (h : A.testBit k = false) : memTo A (k + 1) = memTo A k := by simp [memTo, List.range_succ, h]
theorem memTo_stop {A k j : Nat} (hk : A >>> k = 0) (hj : k ≤ j) : memTo A j = memTo A k := by
  induction j with
  | zero => have : k = 0 := by omega
            rw [this]
  | succ j ih =>
    by_cases e : k = j + 1
    · rw [e]
    · have hb : A.testBit j = false := by
        have : A.testBit j = (A >>> k).testBit (j - k) := by rw [Nat.testBit_shiftRight]; congr 1; omega
        rw [this, hk]; simp
      rw [memTo_no hb, ih (by omega)]
theorem memTo_end {A k : Nat} (hk : A >>> k = 0) (h24 : k ≤ 24) : memTo A k = mem A := (memTo_stop hk h24).symm
theorem shr_lt {A k : Nat} (h : A < 2 ^ 24) (hne : A >>> k ≠ 0) : k < 24 := by
  rcases Nat.lt_or_ge k 24 with h' | h'
  · exact h'
  · exfalso; apply hne
    rw [Nat.shiftRight_eq_div_pow]
    exact Nat.div_eq_of_lt (Nat.lt_of_lt_of_le h (Nat.pow_le_pow_right (by omega) h'))
theorem memTo_len (A k : Nat) : (memTo A k).length ≤ k := by
  have := List.length_filter_le (fun i => A.testBit i) (List.range k)
  simpa [memTo] using this
theorem sub_lt_pow {n : Nat} (h : n ≤ 24) : 2 ^ n ≤ 2 ^ 24 := Nat.pow_le_pow_right (by omega) h
theorem ofL_bound {L : List Nat} (h : ∀ i ∈ L, i < 24) : ofL L < 16777216 := ofL_lt (n := 24) h
/-- set difference -/
def sdiff (a b : Nat) : Nat := a ^^^ (a &&& b)
theorem testBit_sdiff (a b i : Nat) : (sdiff a b).testBit i = (a.testBit i && !b.testBit i) := by
  simp only [sdiff, Nat.testBit_xor, Nat.testBit_and]; cases a.testBit i <;> cases b.testBit i <;> rfl
theorem sdiff_lt {a b n : Nat} (h : a < 2 ^ n) : sdiff a b < 2 ^ n := by
  apply lt_two_pow_of_bits; intro i hi
  rw [testBit_sdiff, Nat.testBit_lt_two_pow (Nat.lt_of_lt_of_le h (Nat.pow_le_pow_right (by omega) hi))]; rfl

/-! ### Sets of a group -/
def shiftN (m : List Nat) (A x : Nat) : Nat := ofL ((mem A).map fun y => addN m x y)
def sumN (m : List Nat) (A B : Nat) : Nat := ofL ((mem A).flatMap fun x => (mem B).map fun y => addN m x y)
def oppN (m : List Nat) (A : Nat) : Nat := ofL ((mem A).map fun x => negN m x)
def progN (m : List Nat) (s d : Nat) : Nat → List Nat | 0 => [] | n + 1 => s :: progN m (addN m s d) d n
theorem Ok.ge2 {m : List Nat} (h : Ok m) : ∀ o ∈ m, 2 ≤ o := fun o ho => (h.rng o ho).1
theorem Ok.add_lt {m : List Nat} (h : Ok m) (x y : Nat) : addN m x y < prodN m := addN_lt h.ge2 x y
theorem Ok.neg_lt {m : List Nat} (h : Ok m) (x : Nat) : negN m x < prodN m := negN_lt h.ge2 x
theorem Ok.add24 {m : List Nat} (h : Ok m) (x y : Nat) : addN m x y < 24 := Nat.lt_of_lt_of_le (h.add_lt x y) h.ord
theorem Ok.neg24 {m : List Nat} (h : Ok m) (x : Nat) : negN m x < 24 := Nat.lt_of_lt_of_le (h.neg_lt x) h.ord
theorem Ok.shift_lt {m : List Nat} (h : Ok m) (A x : Nat) : shiftN m A x < 2 ^ prodN m := ofL_lt fun i hi => by
  simp only [List.mem_map] at hi; obtain ⟨y, _, rfl⟩ := hi; exact h.add_lt x y
theorem Ok.sum_lt {m : List Nat} (h : Ok m) (A B : Nat) : sumN m A B < 2 ^ prodN m := ofL_lt fun i hi => by
  simp only [List.mem_flatMap, List.mem_map] at hi; obtain ⟨x, _, y, _, rfl⟩ := hi; exact h.add_lt x y
theorem Ok.opp_lt {m : List Nat} (h : Ok m) (A : Nat) : oppN m A < 2 ^ prodN m := ofL_lt fun i hi => by
  simp only [List.mem_map] at hi; obtain ⟨x, _, rfl⟩ := hi; exact h.neg_lt x
theorem Ok.pow_le {m : List Nat} (h : Ok m) : 2 ^ prodN m ≤ 16777216 := sub_lt_pow h.ord
end Go.Proofs.Ytpflnmcecnbilaa
