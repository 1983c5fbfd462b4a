/-
  The map of Ruzsa's triangle, told plainly: pairs of differences, all distinct.
-/
import Derived.Test.YtpflnmcecnbilaaComb
import Derived.Test.YtpflnmcecnbilaaStab
namespace Go.Proofs.Ytpflnmcecnbilaa
open Go.RowKit

def txN (m : List Nat) (A C d : Nat) : Nat := (mem (A &&& sumN m C (pw d))).getD 0 0
def tzN (m : List Nat) (A C d : Nat) : Nat := addN m (txN m A C d) (negN m d)
def tpN (m : List Nat) (A C d v : Nat) : Nat × Nat := (addN m (txN m A C d) (negN m v), addN m v (negN m (tzN m A C d)))
def triR (m : List Nat) (A C B d : Nat) : List (Nat × Nat) := (mem B).map (tpN m A C d)
def triL (m : List Nat) (A B C : Nat) : List (Nat × Nat) := (mem (diffN m A C)).flatMap (triR m A C B)
theorem mem_pw {x y : Nat} (hx : x < 24) : y ∈ mem (pw x) ↔ y = x := by
  rw [mem_iff, testBit_pw, decide_eq_true_eq]
  constructor
  · rintro ⟨_, rfl⟩; rfl
  · rintro rfl; exact ⟨hx, rfl⟩
theorem mem_and_filter (A S : Nat) : mem (A &&& S) = (mem A).filter fun u => S.testBit u := by
  simp only [mem, List.filter_filter, Nat.testBit_and, Bool.and_comm]
section
variable {m : List Nat} (hm : Ok m)
include hm
theorem in_sum_pw {C d u : Nat} (hC : C < 2 ^ prodN m) (hd : d < prodN m) (hu : u < prodN m) : u ∈ mem (sumN m C (pw d)) ↔ addN m u (negN m d) ∈ mem C := by
  have hd' : d < 24 := Nat.lt_of_lt_of_le hd hm.ord
  rw [mem_sumN hm]
  constructor
  · rintro ⟨x, hx, y, hy, rfl⟩
    rw [(mem_pw hd').1 hy, hm.add_sub d (hm.mlt hC hx)]; exact hx
  · intro h
    exact ⟨_, h, d, (mem_pw hd').2 rfl, hm.sub_add d hu⟩
theorem tx_spec {A C d : Nat} (hA : A < 2 ^ prodN m) (hC : C < 2 ^ prodN m) (hd : d ∈ mem (diffN m A C)) :
    0 < (mem (A &&& sumN m C (pw d))).length ∧ txN m A C d ∈ mem A ∧ tzN m A C d ∈ mem C := by
  have hdl : d < prodN m := hm.mlt (hm.sum_lt A (oppN m C)) hd
  obtain ⟨a, ha, y, hy, rfl⟩ := (mem_sumN hm).1 hd
  obtain ⟨c, hc, rfl⟩ := (mem_oppN hm).1 hy
  have hin : a ∈ mem (A &&& sumN m C (pw (addN m a (negN m c)))) := mem_and.2 ⟨ha, (mem_sumN hm).2 ⟨c, hc, _, (mem_pw (Nat.lt_of_lt_of_le hdl hm.ord)).2 rfl, by rw [addN_comm]; exact hm.sub_add c (hm.mlt hA ha)⟩⟩
  have hl := List.length_pos_of_mem hin
  have ht : txN m A C (addN m a (negN m c)) ∈ mem (A &&& sumN m C (pw (addN m a (negN m c)))) := getD_mem _ 0 0 hl
  have h2 := mem_and.1 ht
  exact ⟨hl, h2.1, (in_sum_pw hm hC hdl (hm.mlt hA h2.1)).1 h2.2⟩
theorem tp_sum {A C d v : Nat} (hA : A < 2 ^ prodN m) (hC : C < 2 ^ prodN m) (hd : d ∈ mem (diffN m A C)) :
    addN m (tpN m A C d v).1 (tpN m A C d v).2 = d := by
  have hdl : d < prodN m := hm.mlt (hm.sum_lt A (oppN m C)) hd
  obtain ⟨_, hx, _⟩ := tx_spec hm hA hC hd
  have hxl := hm.mlt hA hx
  simp only [tpN]
  rw [← hm.assoc, hm.sub_add v hxl]
  refine hm.cancel (a := tzN m A C d) (hm.add_lt _ _) hdl ?_
  rw [hm.sub_add _ hxl, tzN, addN_comm, hm.sub_add d hxl]
theorem tri_nodup {A C : Nat} (B : Nat) (hA : A < 2 ^ prodN m) (hB : B < 2 ^ prodN m) (hC : C < 2 ^ prodN m) : (triL m A B C).Nodup := by
  unfold triL
  refine List.pairwise_flatMap.2 ⟨fun d hd => ?_, ?_⟩
  · refine List.pairwise_map.2 ((mem_nodup B).imp_of_mem fun {v v'} hv hv' hne e => hne ?_)
    have e1 := congrArg Prod.fst e
    simp only [tpN] at e1
    exact hm.neg_inj (hm.mlt hB hv) (hm.mlt hB hv') (hm.lcancel (hm.neg_lt _) (hm.neg_lt _) e1)
  · refine (mem_nodup _).imp_of_mem fun {d d'} hd hd' hne p hp q hq e => hne ?_
    obtain ⟨v, _, rfl⟩ := List.mem_map.1 hp
    obtain ⟨v', _, rfl⟩ := List.mem_map.1 hq
    rw [← tp_sum hm (v := v) hA hC hd, e, tp_sum hm hA hC hd']
omit hm in
theorem tri_length {A C : Nat} (B : Nat) : (triL m A B C).length = card (diffN m A C) * card B := by
  unfold triL card
  generalize mem (diffN m A C) = L
  induction L with
  | nil => simp
  | cons d L ih => rw [List.flatMap_cons, List.length_append, ih, triR, List.length_map, List.length_cons, Nat.succ_mul, Nat.add_comm]
end
def codeN (p : Nat × Nat) : Nat := p.1 * 24 + p.2
def cdL (m : List Nat) (A B C i k : Nat) : List Nat := (((mem (diffN m A C)).take i).flatMap (triR m A C B) ++ ((mem B).take k).map (tpN m A C ((mem (diffN m A C)).getD i 0))).map codeN
theorem cd_zero (m : List Nat) (A B C : Nat) : cdL m A B C 0 0 = [] := rfl
theorem cd_step {m : List Nat} {A B C i k : Nat} (hk : k < (mem B).length) : cdL m A B C i (k + 1) = cdL m A B C i k ++ [codeN (tpN m A C ((mem (diffN m A C)).getD i 0) ((mem B).getD k 0))] := by
  unfold cdL
  rw [List.take_succ_eq_append_getElem hk, List.getD_eq_getElem?_getD (l := mem B), List.getElem?_eq_getElem hk]
  simp only [List.map_append, List.map_cons, List.map_nil, List.append_assoc, Option.getD_some]
theorem cd_next {m : List Nat} {A B C i : Nat} (hi : i < (mem (diffN m A C)).length) : cdL m A B C (i + 1) 0 = cdL m A B C i (mem B).length := by
  unfold cdL
  rw [List.take_succ_eq_append_getElem hi, List.flatMap_append, List.take_length, List.take_zero, List.map_nil, List.append_nil, List.getD_eq_getElem?_getD, List.getElem?_eq_getElem hi]
  simp [triR]
theorem cd_end (m : List Nat) (A B C : Nat) : (cdL m A B C (mem (diffN m A C)).length 0).length = card (diffN m A C) * card B := by
  unfold cdL
  rw [List.take_length, List.take_zero, List.map_nil, List.append_nil, List.length_map]; exact tri_length B
theorem cd_sub {m : List Nat} {A B C i k : Nat} (hi : i < (mem (diffN m A C)).length) : (cdL m A B C i k).Sublist ((triL m A B C).map codeN) := by
  refine List.Sublist.map _ ?_
  have h1 : (((mem (diffN m A C)).take (i + 1)).flatMap (triR m A C B)).Sublist (triL m A B C) := by
    unfold triL
    conv => rhs; rw [← List.take_append_drop (i + 1) (mem (diffN m A C)), List.flatMap_append]
    exact List.sublist_append_left _ _
  refine List.Sublist.trans ?_ h1
  rw [List.take_succ_eq_append_getElem hi, List.flatMap_append]
  refine List.Sublist.append (List.Sublist.refl _) ?_
  rw [List.getD_eq_getElem?_getD, List.getElem?_eq_getElem hi]
  simp only [List.flatMap_cons, List.flatMap_nil, List.append_nil, triR, Option.getD_some]
  exact List.Sublist.map _ (List.take_sublist _ _)
theorem code_nodup {m : List Nat} (hm : Ok m) {A C : Nat} (B : Nat) (hA : A < 2 ^ prodN m) (hB : B < 2 ^ prodN m) (hC : C < 2 ^ prodN m) : ((triL m A B C).map codeN).Nodup := by
  have hlt : ∀ p ∈ triL m A B C, p.1 < 24 ∧ p.2 < 24 := fun p hp => by
    obtain ⟨d, _, h⟩ := List.mem_flatMap.1 hp
    obtain ⟨v, _, rfl⟩ := List.mem_map.1 h
    exact ⟨Nat.lt_of_lt_of_le (hm.add_lt _ _) hm.ord, Nat.lt_of_lt_of_le (hm.add_lt _ _) hm.ord⟩
  refine List.pairwise_map.2 ((tri_nodup hm B hA hB hC).imp_of_mem fun {p q} hp hq hne e => hne ?_)
  have h1 := hlt p hp; have h2 := hlt q hq
  simp only [codeN] at e
  exact Prod.ext (by omega) (by omega)
theorem cd_new {m : List Nat} (hm : Ok m) {A B C i k : Nat} (hA : A < 2 ^ prodN m) (hB : B < 2 ^ prodN m) (hC : C < 2 ^ prodN m) (hi : i < (mem (diffN m A C)).length) (hk : k < (mem B).length) :
    ∀ j, j < (cdL m A B C i k).length → (cdL m A B C i k).getD j 0 ≠ codeN (tpN m A C ((mem (diffN m A C)).getD i 0) ((mem B).getD k 0)) := fun j hj e => by
  have h := (code_nodup hm B hA hB hC).sublist (cd_sub (k := k + 1) hi)
  rw [cd_step hk] at h
  exact (List.nodup_append.1 h).2.2 _ (getD_mem _ 0 j hj) _ (by simp) e
theorem cd_len (m : List Nat) (A B C : Nat) {i k : Nat} (hi : i < (mem (diffN m A C)).length) : (cdL m A B C i k).length ≤ 576 := by
  have h := (cd_sub (m := m) (A := A) (B := B) (C := C) (k := k) hi).length_le
  rw [List.length_map, tri_length] at h
  have := Nat.mul_le_mul (card_le (diffN m A C)) (card_le B)
  omega
end Go.Proofs.Ytpflnmcecnbilaa
