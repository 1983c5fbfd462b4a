/-
  Contracts: the cosets of a subgroup.
-/
import Derived.Test.YtpflnmcecnbilaaGen
import Derived.Test.YtpflnmcecnbilaaPrime
import Derived.Test.YtpflnmcecnbilaaShift
import Derived.Deep.RegionHeld3
namespace Go.Proofs.Ytpflnmcecnbilaa
open Go.RowKit

def cosP (m : List Nat) (H : Nat) : Nat → List Nat × Nat
  | 0 => ([], 0)
  | k + 1 => if (cosP m H k).2.testBit k = true then cosP m H k else ((cosP m H k).1 ++ [shiftN m H k], (cosP m H k).2 ||| shiftN m H k)
theorem cosP_yes {m : List Nat} {H k : Nat} (h : (cosP m H k).2.testBit k = true) : cosP m H (k + 1) = cosP m H k := by rw [cosP, if_pos h]
theorem cosP_no {m : List Nat} {H k : Nat} (h : (cosP m H k).2.testBit k = false) : cosP m H (k + 1) = ((cosP m H k).1 ++ [shiftN m H k], (cosP m H k).2 ||| shiftN m H k) := by rw [cosP, if_neg (by simp [h])]
theorem cosP_len (m : List Nat) (H : Nat) : ∀ k, (cosP m H k).1.length ≤ k
  | 0 => by simp [cosP]
  | k + 1 => by
    have ih := cosP_len m H k
    rw [cosP]; split
    · omega
    · simp; omega
theorem cosP_lt {m : List Nat} (hm : Ok m) (H : Nat) : ∀ k, (cosP m H k).2 < 16777216 ∧ ∀ c ∈ (cosP m H k).1, c < 16777216
  | 0 => ⟨by simp [cosP], by simp [cosP]⟩
  | k + 1 => by
    have ih := cosP_lt hm H k
    rw [cosP]; split
    · exact ih
    · refine ⟨or_lt24 ih.1 (shiftN_lt hm H k), fun c hc => ?_⟩
      rcases List.mem_append.1 hc with h | h
      · exact ih.2 c h
      · simp at h; rw [h]; exact shiftN_lt hm H k
def cosN (m : List Nat) (H : Nat) : List Nat := (cosP m H (prodN m)).1
def cosF (l : List Int) (h : Int) : List Int := if subB l h = true then cst (cosN (toN l) h.toNat) else []
theorem cosF_yes {m : List Nat} {H : Nat} (h : subB (cst m) H = true) : cosF (cst m) H = cst (cosN m H) := by unfold cosF; rw [if_pos h, toN_cst, Int.toNat_natCast]
theorem cosF_no {l : List Int} {h : Int} (e : subB l h = false) : cosF l h = [] := by unfold cosF; rw [if_neg (by simp [e])]
theorem subB_set {l : List Int} {h : Int} (e : subB l h = true) : isSetB l h = true := by unfold subB at e; rw [Bool.and_eq_true] at e; exact e.1
/-- the function returns a slice of these integers, in new memory, and a bool -/
def RetIB (w : World) (l : List Int) (bv : Bool) (e : Ending) (w' : World) : Prop := ∃ g cap, e = .returned (.tuple #[.slice (some ⟨g, 0, none⟩) l.length cap, .bool bv]) ∧ Made w l g cap w'
theorem GrowB.form {w wr : World} {l : List Int} {v : Value} (h : GrowB w l v wr) : ∃ g cap, v = .slice (some ⟨g, 0, none⟩) l.length cap ∧ Made w l g cap wr := by
  obtain ⟨g, cap, e, hm⟩ := h.ret
  exact ⟨g, cap, by injection e, hm⟩
theorem GrowB.retB {w wr : World} {l : List Int} {v : Value} (h : GrowB w l v wr) (bv : Bool) : RetIB w l bv (.returned (.tuple #[v, .bool bv])) wr := by
  obtain ⟨g, cap, rfl, hm⟩ := h.form
  exact ⟨g, cap, rfl, hm⟩
theorem shrC_test0 {A : Nat} (k : Nat) (hA : A < 16777216) : (bits BinOp.and IntKind.i64 ((A : Int) / 2 ^ k) 1 == 0) = !A.testBit k := by
  have h1 : A / 2 ^ k ≤ A := Nat.div_le_self _ _
  have e : ((A : Int) / 2 ^ k) = ((A / 2 ^ k : Nat) : Int) := by simp
  rw [e, show (1 : Int) = ((1 : Nat) : Int) from rfl, bits_and_nat _ _ (by omega) (by omega), Nat.testBit_eq_decide_div_mod_eq]
  rw [Nat.and_one_is_mod, Bool.eq_iff_iff]; simp; omega
end Go.Proofs.Ytpflnmcecnbilaa
