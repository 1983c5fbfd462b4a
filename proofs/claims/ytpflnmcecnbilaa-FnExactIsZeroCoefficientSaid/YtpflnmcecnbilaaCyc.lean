/-
  Plain laws: division by a polynomial whose last number is 1, in the machine's arithmetic; the cyclotomic polynomials up to 24.
-/
import Derived.Test.YtpflnmcecnbilaaBase
namespace Go.Proofs.Ytpflnmcecnbilaa
open Go.RowKit

/-- f times d taken off r from place i on, the first k numbers of d -/
def subR (d : List Int) (f : Int) (i : Nat) (r : List Int) : Nat → List Int
  | 0 => r
  | k + 1 => (subR d f i r k).set (i + k) (wrap64 ((subR d f i r k).getD (i + k) 0 - wrap64 (f * d.getD k 0)))
/-- how many numbers the quotient has -/
def divL (p d : List Int) : Nat := p.length + 1 - d.length
/-- what is left behind j rounds -/
def divR (p d : List Int) : Nat → List Int
  | 0 => p
  | j + 1 => subR d ((divR p d j).getD (divL p d - 1 - j + d.length - 1) 0) (divL p d - 1 - j) (divR p d j) d.length
def divC (p d : List Int) (j : Nat) : Int := (divR p d j).getD (divL p d - 1 - j + d.length - 1) 0
/-- the quotient behind j rounds -/
def divQ (p d : List Int) : Nat → List Int
  | 0 => List.replicate (divL p d) 0
  | j + 1 => (divQ p d j).set (divL p d - 1 - j) (divC p d j)
def quoN (p d : List Int) : List Int := divQ p d (divL p d)
def remN (p d : List Int) : List Int := divR p d (divL p d)
theorem subR_len (d : List Int) (f : Int) (i : Nat) (r : List Int) : ∀ k, (subR d f i r k).length = r.length
  | 0 => rfl
  | k + 1 => by rw [subR, List.length_set, subR_len d f i r k]
theorem divR_len (p d : List Int) : ∀ j, (divR p d j).length = p.length
  | 0 => rfl
  | j + 1 => by rw [divR, subR_len, divR_len p d j]
theorem divQ_len (p d : List Int) : ∀ j, (divQ p d j).length = divL p d
  | 0 => by simp [divQ]
  | j + 1 => by rw [divQ, List.length_set, divQ_len p d j]
theorem divR_step (p d : List Int) (j : Nat) : divR p d (j + 1) = subR d (divC p d j) (divL p d - 1 - j) (divR p d j) d.length := rfl
theorem getD_set_eq {T : List Int} {z : Nat} {v : Int} (h : z < T.length) : (T.set z v).getD z 0 = v := by
  rw [List.getD_eq_getElem?_getD, List.getElem?_set]; simp [h]
theorem getD_set_ne {T : List Int} {z u : Nat} {v : Int} (h : z ≠ u) : (T.set z v).getD u 0 = T.getD u 0 := by
  rw [List.getD_eq_getElem?_getD, List.getD_eq_getElem?_getD, List.getElem?_set]; simp [h]
/-- places beyond those turned stay -/
theorem subR_out (d : List Int) (f : Int) (i : Nat) (r : List Int) (u : Nat) : ∀ k, i + k ≤ u → (subR d f i r k).getD u 0 = r.getD u 0
  | 0, _ => rfl
  | k + 1, h => by rw [subR, getD_set_ne (by omega), subR_out d f i r u k (by omega)]
theorem wrap64_self (f : Int) : wrap64 (f - wrap64 (f * 1)) = 0 := by unfold wrap64; omega
/-- the leading number goes away -/
theorem subR_lead {d r : List Int} {f : Int} {i : Nat} (hd : 1 ≤ d.length) (h1 : d.getD (d.length - 1) 0 = 1) (hl : i + d.length ≤ r.length) (hf : r.getD (i + d.length - 1) 0 = f) : (subR d f i r d.length).getD (i + d.length - 1) 0 = 0 := by
  obtain ⟨n, hn⟩ : ∃ n, d.length = n + 1 := ⟨d.length - 1, by omega⟩
  have h1' : d.getD n 0 = 1 := by rw [hn] at h1; exact h1
  rw [hn] at hl hf ⊢
  rw [subR, show i + (n + 1) - 1 = i + n from by omega, getD_set_eq (by rw [subR_len]; omega), subR_out d f i r (i + n) n (Nat.le_refl _), h1']
  rw [show i + (n + 1) - 1 = i + n from by omega] at hf
  rw [hf]; exact wrap64_self f
/-- behind j rounds the highest j numbers are 0 -/
theorem divR_high {p d : List Int} (hd : 1 ≤ d.length) (h1 : d.getD (d.length - 1) 0 = 1) (hl : d.length ≤ p.length) : ∀ j, j ≤ divL p d → ∀ u, divL p d - j + d.length - 1 ≤ u → (divR p d j).getD u 0 = 0
  | 0, _ => fun u hu => by
    rw [divR, List.getD_eq_getElem?_getD, List.getElem?_eq_none (by unfold divL at hu; omega)]; rfl
  | j + 1, hj => fun u hu => by
    have hdl : divL p d + d.length = p.length + 1 := by unfold divL; omega
    rw [divR_step]
    by_cases e : u = divL p d - 1 - j + d.length - 1
    · subst e
      exact subR_lead hd h1 (by rw [divR_len]; omega) rfl
    · rw [subR_out _ _ _ _ _ _ (by omega)]
      exact divR_high hd h1 hl j (by omega) u (by omega)
theorem remN_high {p d : List Int} (hd : 1 ≤ d.length) (h1 : d.getD (d.length - 1) 0 = 1) (hl : d.length ≤ p.length) {u : Nat} (hu : d.length - 1 ≤ u) : (remN p d).getD u 0 = 0 :=
  divR_high hd h1 hl _ (Nat.le_refl _) u (by omega)
/-- all numbers are 0 -/
def zeroB (r : List Int) : Bool := r.all fun x => decide (x = 0)
theorem zeroB_no {r : List Int} {k : Nat} (hk : k < r.length) (h : r.getD k 0 ≠ 0) : zeroB r = false := by
  rw [Bool.eq_false_iff]; intro hc
  unfold zeroB at hc; rw [List.all_eq_true] at hc
  have := hc _ (getD_mem r 0 k hk)
  simp at this; exact h (by simpa [List.getD_eq_getElem?_getD] using this)
theorem zeroB_yes {r : List Int} (h : ∀ k, k < r.length → r.getD k 0 = 0) : zeroB r = true := by
  unfold zeroB; rw [List.all_eq_true]; intro x hx
  obtain ⟨i, hi, rfl⟩ := List.mem_iff_getElem.1 hx
  have := h i hi
  simp only [List.getD_eq_getElem?_getD, List.getElem?_eq_getElem hi, Option.getD_some] at this
  simp [this]
theorem zeroB_low {p d : List Int} (hd : 1 ≤ d.length) (h1 : d.getD (d.length - 1) 0 = 1) (hl : d.length ≤ p.length) (h : ∀ k, k < d.length - 1 → (remN p d).getD k 0 = 0) : zeroB (remN p d) = true :=
  zeroB_yes fun k _ => by
    rcases Nat.lt_or_ge k (d.length - 1) with h' | h'
    · exact h k h'
    · exact remN_high hd h1 hl h'

/-! ### the cyclotomic polynomials -/
def tabC : List (List Int) := [[],
   [-1, 1],
   [1, 1],
   [1, 1, 1],
   [1, 0, 1],
   [1, 1, 1, 1, 1],
   [1, -1, 1],
   [1, 1, 1, 1, 1, 1, 1],
   [1, 0, 0, 0, 1],
   [1, 0, 0, 1, 0, 0, 1],
   [1, -1, 1, -1, 1],
   [1, 1, 1, 1, 1, 1, 1, 1, 1, 1, 1],
   [1, 0, -1, 0, 1],
   [1, 1, 1, 1, 1, 1, 1, 1, 1, 1, 1, 1, 1],
   [1, -1, 1, -1, 1, -1, 1],
   [1, -1, 0, 1, -1, 1, 0, -1, 1],
   [1, 0, 0, 0, 0, 0, 0, 0, 1],
   [1, 1, 1, 1, 1, 1, 1, 1, 1, 1, 1, 1, 1, 1, 1, 1, 1],
   [1, 0, 0, -1, 0, 0, 1],
   [1, 1, 1, 1, 1, 1, 1, 1, 1, 1, 1, 1, 1, 1, 1, 1, 1, 1, 1],
   [1, 0, -1, 0, 1, 0, -1, 0, 1],
   [1, -1, 0, 1, -1, 0, 1, 0, -1, 1, 0, -1, 1],
   [1, -1, 1, -1, 1, -1, 1, -1, 1, -1, 1],
   [1, 1, 1, 1, 1, 1, 1, 1, 1, 1, 1, 1, 1, 1, 1, 1, 1, 1, 1, 1, 1, 1, 1],
   [1, 0, 0, 0, -1, 0, 0, 0, 1]]
def cycT (n : Nat) : List Int := tabC.getD n []
def cycS (n : Nat) : List Int := ((List.replicate (n + 1) (0 : Int)).set 0 (-1)).set n 1
/-- the product of what is left, with the divisors below e taken out -/
def cycP (n : Nat) : Nat → List Int
  | 0 => cycS n
  | e + 1 => if e = 0 then cycS n else if n % e = 0 then quoN (cycP n e) (cycT e) else cycP n e
theorem cycP_first (n : Nat) : cycP n 1 = cycS n := rfl
theorem cycP_yes {n e : Nat} (he : 1 ≤ e) (h : n % e = 0) : cycP n (e + 1) = quoN (cycP n e) (cycT e) := by rw [cycP, if_neg (by omega), if_pos h]
theorem cycP_no {n e : Nat} (he : 1 ≤ e) (h : n % e ≠ 0) : cycP n (e + 1) = cycP n e := by rw [cycP, if_neg (by omega), if_neg h]
theorem cyc_facts : ∀ n, n < 25 → 1 ≤ n → cycP n n = cycT n ∧ 2 ≤ (cycT n).length ∧ (cycT n).length ≤ n + 1 ∧ (cycT n).getD ((cycT n).length - 1) 0 = 1 := by decide +kernel
theorem cyc_lens : ∀ n, n < 25 → ∀ e, e < n → 1 ≤ e → (cycP n e).length ≤ 25 ∧ (n % e = 0 → (cycT e).length ≤ (cycP n e).length) := by decide +kernel
end Go.Proofs.Ytpflnmcecnbilaa
