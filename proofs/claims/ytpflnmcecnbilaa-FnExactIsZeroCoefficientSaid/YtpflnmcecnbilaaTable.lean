/-
  Contracts: how many pairs have each sum.
-/
import Derived.Test.YtpflnmcecnbilaaFull
import Derived.Test.YtpflnmcecnbilaaAdd
import Derived.Deep.RegionHeld3
namespace Go.Proofs.Ytpflnmcecnbilaa
open Go.RowKit

/-- how often each number below n stands in a list -/
def cntTo (n : Nat) (P : List Nat) : List Nat := (List.range n).map fun z => P.count z
theorem cntTo_len (n : Nat) (P : List Nat) : (cntTo n P).length = n := by simp [cntTo]
theorem cntTo_getD {n : Nat} {P : List Nat} {z : Nat} (h : z < n) : (cntTo n P).getD z 0 = P.count z := by
  simp [cntTo, List.getD_eq_getElem?_getD, List.getElem?_map, List.getElem?_range h]
theorem cntTo_step {n : Nat} {P : List Nat} {z : Nat} (_h : z < n) : (cntTo n P).set z (P.count z + 1) = cntTo n (P ++ [z]) := by
  apply List.ext_getElem (by simp [cntTo])
  intro i h1 h2
  simp only [cntTo, List.length_set, List.length_map, List.length_range] at h1
  rw [List.getElem_set]
  by_cases e : z = i
  · subst e; simp [cntTo, List.count_append]
  · rw [if_neg e]
    simp [cntTo, List.count_append, List.count_singleton, e]
theorem cntTo_nil (n : Nat) : cntTo n [] = List.replicate n 0 := by
  apply List.ext_getElem (by simp [cntTo]); intro i h1 h2; simp [cntTo]
theorem cst_set (l : List Nat) (z x : Nat) : (cst l).set z (x : Int) = cst (l.set z x) := by simp [cst, List.map_set]
theorem cst_replicate (n : Nat) : cst (List.replicate n 0) = List.replicate n (0 : Int) := by simp [cst]
/-- the sums of pairs that have been met before place (i, j) -/
def pairsTo (m : List Nat) (K L : List Nat) (i j : Nat) : List Nat := ((K.take i).flatMap fun x => L.map (addN m x)) ++ (L.take j).map (addN m (K.getD i 0))
def pairs (m : List Nat) (K L : List Nat) : List Nat := K.flatMap fun x => L.map (addN m x)
theorem pairsTo_step {m K L : List Nat} {i j : Nat} (hj : j < L.length) : pairsTo m K L i (j + 1) = pairsTo m K L i j ++ [addN m (K.getD i 0) (L.getD j 0)] := by
  unfold pairsTo; rw [take_snoc L 0 j hj, List.map_append, List.append_assoc]; rfl
theorem pairsTo_next {m K L : List Nat} {i j : Nat} (hi : i < K.length) (hj : L.length ≤ j) : pairsTo m K L i j = pairsTo m K L (i + 1) 0 := by
  unfold pairsTo; rw [take_snoc K 0 i hi, List.flatMap_append, List.take_of_length_le hj]; simp
theorem pairsTo_end {m K L : List Nat} {i : Nat} (hi : K.length ≤ i) : pairsTo m K L i 0 = pairs m K L := by
  unfold pairsTo pairs; rw [List.take_of_length_le hi]; simp
theorem flatMap_len {α β : Type} (K : List α) (f : α → List β) (B : Nat) (h : ∀ x, (f x).length ≤ B) : (K.flatMap f).length ≤ K.length * B := by
  induction K with
  | nil => simp
  | cons x r ih => have := h x; rw [List.flatMap_cons, List.length_append, List.length_cons, Nat.add_mul]; omega
theorem pairsTo_bd {m K L : List Nat} {i j z : Nat} (hK : K.length ≤ 24) (hL : L.length ≤ 24) : (pairsTo m K L i j).count z ≤ 600 := by
  refine Nat.le_trans List.count_le_length ?_
  unfold pairsTo
  have h1 := flatMap_len (K.take i) (fun x => L.map (addN m x)) 24 (fun x => by simpa using hL)
  have h2 : (K.take i).length ≤ 24 := by simp; omega
  have h3 : ((L.take j).map (addN m (K.getD i 0))).length ≤ 24 := by simp; omega
  rw [List.length_append]
  have h4 : (K.take i).length * 24 ≤ 24 * 24 := Nat.mul_le_mul_right _ h2
  omega
def tabN (m : List Nat) (A B : Nat) : List Nat := cntTo (prodN m) (pairs m (mem A) (mem B))

/-- the world in the loops: the box, the two lists, the table -/
structure StT (w : World) (b off cap : Nat) (m : List Nat) (g1 g2 go : Nat) (K L T : List Nat) (wr : World) : Prop where
  st : St w b off cap (cst m) wr
  l1 : GrpAt wr g1 0 (cst K)
  l2 : GrpAt wr g2 0 (cst L)
  out : Made w (cst T) go (prodN m) wr
  ne1 : g1 ≠ go
  ne2 : g2 ≠ go
  neb : b ≠ go
  new : w.heap.size ≠ go
theorem StT.step {w wr w1 : World} {b off cap g1 g2 go : Nat} {m K L T : List Nat} (h : StT w b off cap m g1 g2 go K L T wr) (hb : Below wr.heap.size wr w1) : StT w b off cap m g1 g2 go K L T w1 :=
  ⟨h.st.step hb, h.l1.below hb, h.l2.below hb, h.out.step hb, h.ne1, h.ne2, h.neb, h.new⟩
theorem St.setCell {w wr : World} {b off cap go : Nat} {l : List Int} (h : St w b off cap l wr) (hgo : w.heap.size ≤ go) (hn : w.heap.size ≠ go) (hb : b ≠ go) (j : Nat) (u : Value) : St w b off cap l (wr.setCell ⟨go, j, none⟩ u) :=
  ⟨h.below.setCell hgo _, by simpa [World.setCell] using h.size, by rw [← h.box]; exact World.cell?_of_block (Below.heap_setCell _ _ _ _ (by simpa using hn)), h.grp.setCell hb u⟩
theorem StT.store {w wr : World} {b off cap g1 g2 go : Nat} {m K L T : List Nat} (h : StT w b off cap m g1 g2 go K L T wr) (z x : Nat) : StT w b off cap m g1 g2 go K L (T.set z x) (wr.setCell ⟨go, z, none⟩ (.int .i64 (x : Int))) :=
  ⟨h.st.setCell h.out.base h.new h.neb _ _, h.l1.setCell h.ne1 _, h.l2.setCell h.ne2 _, by rw [← cst_set]; exact h.out.store z x, h.ne1, h.ne2, h.neb, h.new⟩
theorem Made.ne {w wr : World} {l : List Int} {g c b off : Nat} {l2 : List Int} (h : Made w l g c wr) (hg : GrpAt w b off l2) : b ≠ g := by
  have := h.base; have := hg.blt; omega
/-- what a region holds on to in the inner loop -/
theorem StT.hold {w wr : World} {b off cap g1 g2 go k q x y : Nat} {m K L T : List Nat} (h : StT w b off cap m g1 g2 go K L T wr) (hk : k < (cst K).length) (hx : Hid (K.getD k 0 = x)) (hq : q < (cst L).length) (hy : Hid (L.getD q 0 = y)) :
    wr.cell? ⟨w.heap.size, 0, none⟩ = some (.slice (some ⟨b, off, none⟩) (cst m).length cap) ∧ wr.cell? ⟨g1, k, none⟩ = some (.int .i64 (x : Int)) ∧ wr.cell? ⟨g2, q, none⟩ = some (.int .i64 (y : Int)) ∧ StT w b off cap m g1 g2 go K L T wr :=
  ⟨h.st.box, by rw [h.l1.nat0 k hk, hx.out], by rw [h.l2.nat0 q hq, hy.out], h⟩
theorem StT.keep {w wr w1 : World} {b off cap g1 g2 go k q x y : Nat} {m K L T : List Nat} (h : wr.cell? ⟨w.heap.size, 0, none⟩ = some (.slice (some ⟨b, off, none⟩) (cst m).length cap) ∧ wr.cell? ⟨g1, k, none⟩ = some (.int .i64 (x : Int)) ∧ wr.cell? ⟨g2, q, none⟩ = some (.int .i64 (y : Int)) ∧ StT w b off cap m g1 g2 go K L T wr) (hk : k < (cst K).length) (hx : Hid (K.getD k 0 = x)) (hq : q < (cst L).length) (hy : Hid (L.getD q 0 = y)) (hb : Below wr.heap.size wr w1) :
    w1.cell? ⟨w.heap.size, 0, none⟩ = some (.slice (some ⟨b, off, none⟩) (cst m).length cap) ∧ w1.cell? ⟨g1, k, none⟩ = some (.int .i64 (x : Int)) ∧ w1.cell? ⟨g2, q, none⟩ = some (.int .i64 (y : Int)) ∧ StT w b off cap m g1 g2 go K L T w1 :=
  (h.2.2.2.step hb).hold hk hx hq hy
theorem StT.grpOf {w wr : World} {b off cap g1 g2 go k q x y : Nat} {m K L T : List Nat} (h : wr.cell? ⟨w.heap.size, 0, none⟩ = some (.slice (some ⟨b, off, none⟩) (cst m).length cap) ∧ wr.cell? ⟨g1, k, none⟩ = some (.int .i64 (x : Int)) ∧ wr.cell? ⟨g2, q, none⟩ = some (.int .i64 (y : Int)) ∧ StT w b off cap m g1 g2 go K L T wr) : GrpAt wr b off (cst m) := h.2.2.2.st.grp
theorem StT.drew {w wr : World} {b off cap g1 g2 go : Nat} {m K L T : List Nat} (h : StT w b off cap m g1 g2 go K L T wr) : StT w b off cap m g1 g2 go K L T wr.drew := h.step (Below.refl _ _).drew
/-- the table of whatever numbers -/
def tabF (l : List Int) (a b : Int) : List Int := if two l a b = true then cst (tabN (toN l) a.toNat b.toNat) else []
theorem tabF_yes {m : List Nat} {A B : Nat} (hm : Ok m) (hA : A < 2 ^ prodN m) (hB : B < 2 ^ prodN m) : tabF (cst m) A B = cst (tabN m A B) := by
  unfold tabF; rw [if_pos (two_iff.2 ⟨m, A, B, hm, rfl, rfl, rfl, hA, hB⟩), toN_cst, Int.toNat_natCast, Int.toNat_natCast]
theorem tabF_no {l : List Int} {a b : Int} (h : two l a b = false) : tabF l a b = [] := by unfold tabF; rw [if_neg (by simp [h])]
end Go.Proofs.Ytpflnmcecnbilaa
