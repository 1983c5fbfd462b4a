/-
  Words for the walks: a slice of integers in memory; the world inside a function that has boxed a group; bits of int.
-/
import Derived.Test.YtpflnmcecnbilaaRows
import Derived.Test.YtpflnmcecnbilaaMath
import Derived.WalkKit
import Derived.WalkSpells
import Derived.WalkLawsBesides
import Derived.IntWalk
namespace Go.Proofs.Ytpflnmcecnbilaa
open Go.RowKit

theorem hid {p : Prop} (h : p) : Hid p := h

/-! ### Memory -/
structure GrpAt (w : World) (b off : Nat) (l : List Int) : Prop where
  blt : b < w.heap.size
  cell : ∀ i, i < l.length → w.cell? ⟨b, off + i, none⟩ = some (.int .i64 (l.getD i 0))
theorem GrpAt.below {w w' : World} {b off : Nat} {l : List Int} (h : GrpAt w b off l) (hb : Below w.heap.size w w') : GrpAt w' b off l :=
  ⟨Nat.lt_of_lt_of_le h.blt hb.size, fun i hi => (hb.cell (p := ⟨b, off + i, none⟩) h.blt).trans (h.cell i hi)⟩
theorem GrpAt.alloc {w : World} {b off : Nat} {l : List Int} (h : GrpAt w b off l) (o : Obj) : GrpAt (w.alloc o) b off l :=
  h.below ((Below.refl _ _).alloc (Nat.le_refl _) o)
theorem GrpAt.drew {w : World} {b off : Nat} {l : List Int} (h : GrpAt w b off l) : GrpAt w.drew b off l := h.below (Below.refl _ _).drew
theorem GrpAt.drewN {w : World} {b off : Nat} {l : List Int} (h : GrpAt w b off l) (n : Nat) : GrpAt (w.drewN n) b off l := h.below ⟨rfl, rfl, rfl, Nat.le_refl _, fun _ _ => rfl⟩

structure St (w : World) (b off cap : Nat) (l : List Int) (wr : World) : Prop where
  below : Below w.heap.size w wr
  size : w.heap.size < wr.heap.size
  box : wr.cell? ⟨w.heap.size, 0, none⟩ = some (.slice (some ⟨b, off, none⟩) l.length cap)
  grp : GrpAt wr b off l
theorem St.init {w : World} {b off : Nat} {l : List Int} (cap : Nat) (t : TypeId) (h : GrpAt w b off l) : St w b off cap l (w.alloc (.cells #[.slice (some ⟨b, off, none⟩) l.length cap] t)) :=
  ⟨(Below.refl _ _).alloc (Nat.le_refl _) _, by simp, by rw [World.cell?_alloc_at _ _ _ _ rfl]; rfl, h.alloc _⟩
theorem St.step {w wr w1 : World} {b off cap : Nat} {l : List Int} (h : St w b off cap l wr) (hb : Below wr.heap.size wr w1) : St w b off cap l w1 :=
  ⟨h.below.trans (hb.mono (Nat.le_of_lt h.size)), Nat.lt_of_lt_of_le h.size hb.size, (hb.cell (p := ⟨w.heap.size, 0, none⟩) h.size).trans h.box, h.grp.below hb⟩
theorem St.drewN {w wr : World} {b off cap : Nat} {l : List Int} (h : St w b off cap l wr) (n : Nat) : St w b off cap l (wr.drewN n) :=
  h.step ⟨rfl, rfl, rfl, Nat.le_refl _, fun _ _ => rfl⟩
theorem St.drew {w wr : World} {b off cap : Nat} {l : List Int} (h : St w b off cap l wr) : St w b off cap l wr.drew :=
  h.step ⟨rfl, rfl, rfl, Nat.le_refl _, fun _ _ => rfl⟩

/-- the fact that a region holds on to: what the box holds, and the world's state -/
theorem St.keep {w wr w1 : World} {b off cap : Nat} {l : List Int} (h : wr.cell? ⟨w.heap.size, 0, none⟩ = some (.slice (some ⟨b, off, none⟩) l.length cap) ∧ St w b off cap l wr) (hb : Below wr.heap.size wr w1) :
    w1.cell? ⟨w.heap.size, 0, none⟩ = some (.slice (some ⟨b, off, none⟩) l.length cap) ∧ St w b off cap l w1 := ⟨(h.2.step hb).box, h.2.step hb⟩
theorem St.grpOf {w wr : World} {b off cap : Nat} {l : List Int} (h : wr.cell? ⟨w.heap.size, 0, none⟩ = some (.slice (some ⟨b, off, none⟩) l.length cap) ∧ St w b off cap l wr) : GrpAt wr b off l := h.2.grp

theorem ret_i {a b : Int} (h : a = b) : Ending.returned (.int .i64 a) = .returned (.int .i64 b) := by rw [h]
theorem ret_b {a b : Bool} (h : a = b) : Ending.returned (.bool a) = .returned (.bool b) := by rw [h]
theorem val_i {a b : Int} (h : a = b) : Value.int .i64 a = .int .i64 b := by rw [h]

/-! ### Bits of int -/
theorem ofInt_nat (a : Nat) (h : a < 4611686018427387904) : (BitVec.ofInt 64 (a : Int)).toNat = a := by
  rw [BitVec.toNat_ofInt]; omega
theorem nat_and_lt {a b n : Nat} (h : a < n) : a &&& b < n := Nat.lt_of_le_of_lt Nat.and_le_left h
theorem bits_and_nat (a b : Nat) (ha : a < 4611686018427387904) (hb : b < 4611686018427387904) : bits .and .i64 (a : Int) (b : Int) = ((a &&& b : Nat) : Int) := by
  have h1 := ofInt_nat a ha
  have h2 := ofInt_nat b hb
  have h3 : a &&& b < 4611686018427387904 := nat_and_lt ha
  have h5 : bits .and .i64 (a : Int) (b : Int) = IntKind.i64.wrap ((BitVec.ofInt 64 (a : Int) &&& BitVec.ofInt 64 (b : Int)).toNat : Int) := rfl
  rw [h5, BitVec.toNat_and, h1, h2, IntKind.wrap_i64]; omega
theorem bits_or_nat (a b : Nat) (ha : a < 4611686018427387904) (hb : b < 4611686018427387904) : bits .or .i64 (a : Int) (b : Int) = ((a ||| b : Nat) : Int) := by
  have h1 := ofInt_nat a ha
  have h2 := ofInt_nat b hb
  have h3 : a ||| b < 2 ^ 62 := Nat.or_lt_two_pow (n := 62) ha hb
  have h5 : bits .or .i64 (a : Int) (b : Int) = IntKind.i64.wrap ((BitVec.ofInt 64 (a : Int) ||| BitVec.ofInt 64 (b : Int)).toNat : Int) := rfl
  rw [h5, BitVec.toNat_or, h1, h2, IntKind.wrap_i64]; omega
theorem bits_andNot_nat (a b : Nat) (ha : a < 4611686018427387904) (hb : b < 4611686018427387904) : bits .andNot .i64 (a : Int) (b : Int) = ((sdiff a b : Nat) : Int) := by
  have h1 := ofInt_nat a ha
  have h2 := ofInt_nat b hb
  have h3 : sdiff a b < 2 ^ 62 := sdiff_lt (n := 62) ha
  have h4 : (BitVec.ofInt 64 (a : Int) &&& ~~~BitVec.ofInt 64 (b : Int)).toNat = sdiff a b := by
    apply Nat.eq_of_testBit_eq; intro i
    rw [testBit_sdiff, BitVec.toNat_and, Nat.testBit_and, h1, BitVec.testBit_toNat, BitVec.getLsbD_not, ← BitVec.testBit_toNat, h2]
    by_cases hi : i < 64
    · simp [hi]
    · rw [Nat.testBit_lt_two_pow (show a < 2 ^ i from Nat.lt_of_lt_of_le ha (Nat.pow_le_pow_right (n := 2) (i := 62) (by omega) (by omega)))]; simp
  have h5 : bits .andNot .i64 (a : Int) (b : Int) = IntKind.i64.wrap ((BitVec.ofInt 64 (a : Int) &&& ~~~BitVec.ofInt 64 (b : Int)).toNat : Int) := rfl
  rw [h5, h4, IntKind.wrap_i64]; omega
/-- one shifted to the left, as the walk writes it -/
theorem shl1 {x : Nat} (h : x ≤ 61) : wrap64 ((2 : Int) ^ x) = ((pw x : Nat) : Int) := by
  have h1 : 2 ^ x ≤ 2 ^ 61 := Nat.pow_le_pow_right (by omega) h
  have h2 : ((2 : Int) ^ x) = ((2 ^ x : Nat) : Int) := by simp
  rw [pw_eq, h2]
  generalize 2 ^ x = P at h1 h2 ⊢
  exact IntWalk.wrap64_in _ (by omega)
theorem shl1m {x : Nat} (h : x ≤ 61) : wrap64 ((2 : Int) ^ min x 64) = ((pw x : Nat) : Int) := by
  rw [Nat.min_eq_left (by omega), shl1 h]
theorem shl1k {x : Nat} (h : x ≤ 61) : IntKind.i64.wrap ((2 : Int) ^ x) = ((pw x : Nat) : Int) := by rw [IntWalk.i64_left, shl1 h]
end Go.Proofs.Ytpflnmcecnbilaa
