/-
  Contracts: the map of Ruzsa's triangle, as the program makes it.
-/
import Derived.Test.YtpflnmcecnbilaaTri2
import Derived.Test.YtpflnmcecnbilaaTri3
namespace Go.Proofs.Ytpflnmcecnbilaa
open Go.RowKit

/-- the pairs so far -/
def prL (m : List Nat) (A B C i k : Nat) : List (Nat × Nat) := ((mem (diffN m A C)).take i).flatMap (triR m A C B) ++ ((mem B).take k).map (tpN m A C ((mem (diffN m A C)).getD i 0))
theorem pr_step {m : List Nat} {A B C i k : Nat} (hk : k < (mem B).length) : prL m A B C i (k + 1) = prL m A B C i k ++ [tpN m A C ((mem (diffN m A C)).getD i 0) ((mem B).getD k 0)] := by
  unfold prL
  rw [List.take_succ_eq_append_getElem hk, List.getD_eq_getElem?_getD (l := mem B), List.getElem?_eq_getElem hk]
  simp only [List.map_append, List.map_cons, List.map_nil, List.append_assoc, Option.getD_some]
theorem pr_next {m : List Nat} {A B C i : Nat} (hi : i < (mem (diffN m A C)).length) : prL m A B C (i + 1) 0 = prL m A B C i (mem B).length := by
  unfold prL
  rw [List.take_succ_eq_append_getElem hi, List.flatMap_append, List.take_length, List.take_zero, List.map_nil, List.append_nil, List.getD_eq_getElem?_getD, List.getElem?_eq_getElem hi]
  simp [triR]
theorem pr_end (m : List Nat) (A B C : Nat) : prL m A B C (mem (diffN m A C)).length 0 = triL m A B C := by
  unfold prL
  rw [List.take_length, List.take_zero, List.map_nil, List.append_nil]; rfl
theorem pr_sub {m : List Nat} {A B C i k : Nat} (hi : i < (mem (diffN m A C)).length) : (prL m A B C i k).Sublist (triL m A B C) := by
  have h1 : (((mem (diffN m A C)).take (i + 1)).flatMap (triR m A C B)).Sublist (triL m A B C) := by
    unfold triL
    conv => rhs; rw [← List.take_append_drop (i + 1) (mem (diffN m A C)), List.flatMap_append]
    exact List.sublist_append_left _ _
  refine List.Sublist.trans ?_ h1
  unfold prL
  rw [List.take_succ_eq_append_getElem hi, List.flatMap_append]
  refine List.Sublist.append (List.Sublist.refl _) ?_
  rw [List.getD_eq_getElem?_getD, List.getElem?_eq_getElem hi]
  simp only [List.flatMap_cons, List.flatMap_nil, List.append_nil, triR, Option.getD_some]
  exact List.Sublist.map _ (List.take_sublist _ _)
theorem tri_bd {m : List Nat} (hm : Ok m) (A B C : Nat) : ∀ p ∈ triL m A B C, p.1 < 24 ∧ p.2 < 24 := fun p hp => by
  obtain ⟨d, _, h⟩ := List.mem_flatMap.1 hp
  obtain ⟨v, _, rfl⟩ := List.mem_map.1 h
  exact ⟨Nat.lt_of_lt_of_le (hm.add_lt _ _) hm.ord, Nat.lt_of_lt_of_le (hm.add_lt _ _) hm.ord⟩
theorem pr_bd {m : List Nat} (hm : Ok m) {A B C i k : Nat} (hi : i < (mem (diffN m A C)).length) : ∀ p ∈ prL m A B C i k, p.1 < 24 ∧ p.2 < 24 := fun p hp => tri_bd hm A B C p ((pr_sub hi).subset hp)
theorem pr_new {m : List Nat} (hm : Ok m) {A B C i k : Nat} (hA : A < 2 ^ prodN m) (hB : B < 2 ^ prodN m) (hC : C < 2 ^ prodN m) (hi : i < (mem (diffN m A C)).length) (hk : k < (mem B).length) :
    tpN m A C ((mem (diffN m A C)).getD i 0) ((mem B).getD k 0) ∉ prL m A B C i k := fun e => by
  have h := (tri_nodup hm B hA hB hC).sublist (pr_sub (k := k + 1) hi)
  rw [pr_step hk] at h
  exact (List.nodup_append.1 h).2.2 _ e _ (by simp) rfl
theorem pr_len (m : List Nat) (A B C : Nat) {i k : Nat} (hi : i < (mem (diffN m A C)).length) : (prL m A B C i k).length ≤ 576 := by
  have h := (pr_sub (m := m) (A := A) (B := B) (C := C) (k := k) hi).length_le
  rw [tri_length] at h
  have := Nat.mul_le_mul (card_le (diffN m A C)) (card_le B)
  omega
theorem filter_first (p : Nat → Bool) : ∀ (L : List Nat) (j : Nat), j < L.length → (∀ k, k < j → p (L.getD k 0) = false) → p (L.getD j 0) = true → (L.filter p).getD 0 0 = L.getD j 0
  | [], j, h, _, _ => by simp at h
  | x :: L, 0, _, _, h => by simp at h; simp [h]
  | x :: L, j + 1, h, hb, ht => by
    have h0 := hb 0 (by omega)
    simp at h0
    rw [List.filter_cons, h0]
    simp only [Bool.false_eq_true, if_false, List.getD_cons_succ]
    exact filter_first p L j (by simpa using h) (fun k hk => by have := hb (k + 1) (by omega); simpa using this) (by simpa using ht)
theorem tx_first {m : List Nat} (hm : Ok m) {A C d j : Nat} (hA : A < 2 ^ prodN m) (hC : C < 2 ^ prodN m) (hd : d < prodN m) (hj : j < (mem A).length)
    (hb : ∀ k, k < j → C.testBit (addN m ((mem A).getD k 0) (negN m d)) = false) (ht : C.testBit (addN m ((mem A).getD j 0) (negN m d)) = true) : txN m A C d = (mem A).getD j 0 := by
  have hin : ∀ k, k < (mem A).length → (sumN m C (pw d)).testBit ((mem A).getD k 0) = C.testBit (addN m ((mem A).getD k 0) (negN m d)) := fun k hk => by
    have h1 := in_sum_pw hm hC hd (hm.mlt hA (getD_mem _ 0 k hk))
    rw [← hm.tb (hm.sum_lt _ _), ← hm.tb hC] at h1
    exact Bool.eq_iff_iff.2 h1
  unfold txN
  rw [mem_and_filter]
  exact filter_first _ _ j hj (fun k hk => by rw [hin k (by omega)]; exact hb k hk) (by rw [hin j hj]; exact ht)
theorem tri_size {m : List Nat} (hm : Ok m) {A B C : Nat} (hA : A < 2 ^ prodN m) (hB : B < 2 ^ prodN m) (hC : C < 2 ^ prodN m) : Maps.size (triD (triL m A B C)) = card (diffN m A C) * card B :=
  triD_size _ _ (tri_length B) (tri_nodup hm B hA hB hC) (tri_bd hm A B C)
/-- the map that the call has made, behind world w0: it reads as the set of the pairs of L -/
structure GM (w0 : World) (bm : Nat) (L : List (Nat × Nat)) (wr : World) : Prop where
  below : Below w0.heap.size w0 wr
  far : w0.heap.size ≤ bm
  own : wr.ownsMap Try.prog 84 (plainElem Try.prog 3) bm L.length (triD L)
theorem GM.step {w0 wr w1 : World} {bm : Nat} {L : List (Nat × Nat)} (h : GM w0 bm L wr) (hb : Below wr.heap.size wr w1) : GM w0 bm L w1 :=
  ⟨h.below.trans (hb.mono h.below.size), h.far, h.own.kept (row := none) ⟨hb.os, hb.tape, hb.output, hb.size, fun k hk _ => hb.block k hk⟩ (by simp)⟩
theorem GM.start (w0 : World) : GM w0 w0.heap.size [] (w0.alloc (.map #[] 0)) := ⟨(Below.refl _ _).alloc (Nat.le_refl _) _, Nat.le_refl _, World.ownsMap_made _ _ _ _⟩
theorem GM.push {w0 wr w1 : World} {bm : Nat} {L : List (Nat × Nat)} {p : Nat × Nat} (h : GM w0 bm L wr) (hown : w1.ownsMap Try.prog 84 (plainElem Try.prog 3) bm (L.length + 1) ((triD L).put (kyN p) (.lit (.int .i64 1)))) (hg : wr.grownBy w1 (some bm)) : GM w0 bm (L ++ [p]) w1 :=
  ⟨h.below.grown hg h.below.size (fun k hk => by cases hk; exact h.far), h.far, by rw [triD_snoc, List.length_append]; exact hown⟩
theorem GrpAt.kept {wr w1 : World} {g bm : Nat} {M : List Int} (h : GrpAt wr g 0 M) (hne : g ≠ bm) (hg : wr.grownBy w1 (some bm)) : GrpAt w1 g 0 M :=
  ⟨Nat.lt_of_lt_of_le h.blt hg.size, fun i hi => by rw [← h.cell i hi]; exact World.cell?_of_block (hg.block _ h.blt (by simpa using hne))⟩
/-- the map and three lists beside it (where fewer live, one is named again) -/
structure GK (w0 : World) (bm : Nat) (L : List (Nat × Nat)) (gD : Nat) (D : List Nat) (gU : Nat) (U : List Nat) (gV : Nat) (V : List Nat) (wr : World) : Prop where
  gm : GM w0 bm L wr
  d : GrpAt wr gD 0 (cst D)
  u : GrpAt wr gU 0 (cst U)
  v : GrpAt wr gV 0 (cst V)
  nd : gD ≠ bm
  nu : gU ≠ bm
  nv : gV ≠ bm
theorem GK.step {w0 wr w1 : World} {bm gD gU gV : Nat} {L : List (Nat × Nat)} {D U V : List Nat} (h : GK w0 bm L gD D gU U gV V wr) (hb : Below wr.heap.size wr w1) : GK w0 bm L gD D gU U gV V w1 :=
  ⟨h.gm.step hb, h.d.below hb, h.u.below hb, h.v.below hb, h.nd, h.nu, h.nv⟩
theorem GK.push {w0 wr w1 : World} {bm gD gU gV : Nat} {L : List (Nat × Nat)} {D U V : List Nat} {p : Nat × Nat} (h : GK w0 bm L gD D gU U gV V wr) (hown : w1.ownsMap Try.prog 84 (plainElem Try.prog 3) bm (L.length + 1) ((triD L).put (kyN p) (.lit (.int .i64 1)))) (hg : wr.grownBy w1 (some bm)) : GK w0 bm (L ++ [p]) gD D gU U gV V w1 :=
  ⟨h.gm.push hown hg, h.d.kept h.nd hg, h.u.kept h.nu hg, h.v.kept h.nv hg, h.nd, h.nu, h.nv⟩
theorem GK.atU {w0 wr : World} {bm gD gU gV g : Nat} {L : List (Nat × Nat)} {D U V M : List Nat} (h : GK w0 bm L gD D gU U gV V wr) (hm : GrpAt wr g 0 (cst M)) (hn : g ≠ bm) : GK w0 bm L gD D g M gV V wr := ⟨h.gm, h.d, hm, h.v, h.nd, hn, h.nv⟩
theorem GK.atV {w0 wr : World} {bm gD gU gV g : Nat} {L : List (Nat × Nat)} {D U V M : List Nat} (h : GK w0 bm L gD D gU U gV V wr) (hm : GrpAt wr g 0 (cst M)) (hn : g ≠ bm) : GK w0 bm L gD D gU U g M wr := ⟨h.gm, h.d, h.u, hm, h.nd, h.nu, hn⟩
end Go.Proofs.Ytpflnmcecnbilaa
