/-
  Contracts: how many quadruples of a set have equal sums.
-/
import Derived.Test.YtalflbnplgmlpaaSet
import Derived.Test.YtalflbnplgmlpaaAdd
import Derived.Test.YtalflbnplgmlpaaMem
import Derived.Deep.RegionHeld3
namespace Go.Proofs.Ytalflbnplgmlpaa
open Go.RowKit

def qf (m : List Nat) (A x y z : Nat) : Nat := if A.testBit (addN m (addN m x y) (negN m z)) = true then 1 else 0
def qRow (m : List Nat) (A : Nat) (L : List Nat) (x y k : Nat) : Nat := ((L.take k).map (qf m A x y)).sum
def qPl (m : List Nat) (A : Nat) (L : List Nat) (x j : Nat) : Nat := ((L.take j).map fun y => qRow m A L x y L.length).sum
def qCu (m : List Nat) (A : Nat) (L : List Nat) (i : Nat) : Nat := ((L.take i).map fun x => qPl m A L x L.length).sum
theorem sum_take_succ {L : List Nat} {f : Nat → Nat} {k : Nat} (h : k < L.length) : ((L.take (k + 1)).map f).sum = ((L.take k).map f).sum + f (L.getD k 0) := by
  rw [take_snoc L 0 k h]; simp
theorem sum_take_le {L : List Nat} {f : Nat → Nat} {B : Nat} (h : ∀ x, f x ≤ B) : ∀ k, k ≤ L.length → ((L.take k).map f).sum ≤ k * B
  | 0, _ => by simp
  | k + 1, hk => by rw [sum_take_succ (by omega), Nat.add_mul]; have := sum_take_le (L := L) h k (by omega); have := h (L.getD k 0); omega
theorem qf_le (m : List Nat) (A x y z : Nat) : qf m A x y z ≤ 1 := by unfold qf; split <;> omega
theorem qRow_le {m L : List Nat} {A x y k : Nat} (hL : L.length ≤ 24) (hk : k ≤ L.length) : qRow m A L x y k ≤ 24 := by
  have := sum_take_le (L := L) (qf_le m A x y) k hk; unfold qRow; omega
theorem qPl_le {m L : List Nat} {A x j : Nat} (hL : L.length ≤ 24) (hj : j ≤ L.length) : qPl m A L x j ≤ 576 := by
  have := sum_take_le (L := L) (f := fun y => qRow m A L x y L.length) (B := 24) (fun y => qRow_le hL (Nat.le_refl _)) j hj; unfold qPl; omega
theorem qCu_le {m L : List Nat} {A i : Nat} (hL : L.length ≤ 24) (hi : i ≤ L.length) : qCu m A L i ≤ 13824 := by
  have := sum_take_le (L := L) (f := fun x => qPl m A L x L.length) (B := 576) (fun x => qPl_le hL (Nat.le_refl _)) i hi; unfold qCu; omega
theorem shr_and1 {A : Nat} (k : Nat) (hA : A < 16777216) : bits BinOp.and IntKind.i64 ((A : Int) / 2 ^ k) 1 = ((if A.testBit k = true then 1 else 0 : Nat) : Int) := by
  have h1 : A / 2 ^ k ≤ A := Nat.div_le_self _ _
  have e : ((A : Int) / 2 ^ k) = ((A / 2 ^ k : Nat) : Int) := by simp
  rw [e, show (1 : Int) = ((1 : Nat) : Int) from rfl, bits_and_nat _ _ (by omega) (by omega), Nat.testBit_eq_decide_div_mod_eq, Nat.and_one_is_mod]
  have := Nat.mod_lt (A / 2 ^ k) (show 2 > 0 by omega)
  by_cases h : A / 2 ^ k % 2 = 1
  · simp [h]
  · have : A / 2 ^ k % 2 = 0 := by omega
    simp [this]
def quadF (l : List Int) (a : Int) : Int := if isSetB l a = true then (qCu (toN l) a.toNat (mem a.toNat) (mem a.toNat).length : Nat) else -1
theorem quadF_yes {m : List Nat} {A : Nat} (hm : Ok m) (hA : A < 2 ^ prodN m) : quadF (cst m) A = (qCu m A (mem A) (mem A).length : Nat) := by
  unfold quadF; rw [if_pos (isSetB_nat hm hA), toN_cst, Int.toNat_natCast]
theorem quadF_no {l : List Int} {a : Int} (h : isSetB l a = false) : quadF l a = -1 := by unfold quadF; rw [if_neg (by simp [h])]
structure StQ (w : World) (b off cap : Nat) (l : List Int) (g1 g2 g3 : Nat) (L : List Nat) (wr : World) : Prop where
  st : St w b off cap l wr
  l1 : GrpAt wr g1 0 (cst L)
  l2 : GrpAt wr g2 0 (cst L)
  l3 : GrpAt wr g3 0 (cst L)
section
variable {w wr w1 : World} {b off cap g1 g2 g3 : Nat} {l : List Int} {L : List Nat}
theorem StQ.step (h : StQ w b off cap l g1 g2 g3 L wr) (hb : Below wr.heap.size wr w1) : StQ w b off cap l g1 g2 g3 L w1 := ⟨h.st.step hb, h.l1.below hb, h.l2.below hb, h.l3.below hb⟩
theorem StQ.drew (h : StQ w b off cap l g1 g2 g3 L wr) : StQ w b off cap l g1 g2 g3 L wr.drew := h.step (Below.refl _ _).drew
theorem StQ.hold (h : StQ w b off cap l g1 g2 g3 L wr) : wr.cell? ⟨w.heap.size, 0, none⟩ = some (.slice (some ⟨b, off, none⟩) l.length cap) ∧ StQ w b off cap l g1 g2 g3 L wr := ⟨h.st.box, h⟩
theorem StQ.keep (h : wr.cell? ⟨w.heap.size, 0, none⟩ = some (.slice (some ⟨b, off, none⟩) l.length cap) ∧ StQ w b off cap l g1 g2 g3 L wr) (hb : Below wr.heap.size wr w1) : w1.cell? ⟨w.heap.size, 0, none⟩ = some (.slice (some ⟨b, off, none⟩) l.length cap) ∧ StQ w b off cap l g1 g2 g3 L w1 := (h.2.step hb).hold
theorem StQ.grpOf (h : wr.cell? ⟨w.heap.size, 0, none⟩ = some (.slice (some ⟨b, off, none⟩) l.length cap) ∧ StQ w b off cap l g1 g2 g3 L wr) : GrpAt wr b off l := h.2.st.grp
/-- with the three cells that are read -/
theorem StQ.hold3 {i j k x y z : Nat} (h : StQ w b off cap l g1 g2 g3 L wr) (hi : i < (cst L).length) (hx : Hid (L.getD i 0 = x)) (hj : j < (cst L).length) (hy : Hid (L.getD j 0 = y)) (hk : k < (cst L).length) (hz : Hid (L.getD k 0 = z)) :
    wr.cell? ⟨w.heap.size, 0, none⟩ = some (.slice (some ⟨b, off, none⟩) l.length cap) ∧ wr.cell? ⟨g1, i, none⟩ = some (.int .i64 (x : Int)) ∧ wr.cell? ⟨g2, j, none⟩ = some (.int .i64 (y : Int)) ∧ wr.cell? ⟨g3, k, none⟩ = some (.int .i64 (z : Int)) ∧ StQ w b off cap l g1 g2 g3 L wr :=
  ⟨h.st.box, by rw [h.l1.nat0 i hi, hx.out], by rw [h.l2.nat0 j hj, hy.out], by rw [h.l3.nat0 k hk, hz.out], h⟩
theorem StQ.keep3 {i j k x y z : Nat} (h : wr.cell? ⟨w.heap.size, 0, none⟩ = some (.slice (some ⟨b, off, none⟩) l.length cap) ∧ wr.cell? ⟨g1, i, none⟩ = some (.int .i64 (x : Int)) ∧ wr.cell? ⟨g2, j, none⟩ = some (.int .i64 (y : Int)) ∧ wr.cell? ⟨g3, k, none⟩ = some (.int .i64 (z : Int)) ∧ StQ w b off cap l g1 g2 g3 L wr) (hi : i < (cst L).length) (hx : Hid (L.getD i 0 = x)) (hj : j < (cst L).length) (hy : Hid (L.getD j 0 = y)) (hk : k < (cst L).length) (hz : Hid (L.getD k 0 = z)) (hb : Below wr.heap.size wr w1) :
    w1.cell? ⟨w.heap.size, 0, none⟩ = some (.slice (some ⟨b, off, none⟩) l.length cap) ∧ w1.cell? ⟨g1, i, none⟩ = some (.int .i64 (x : Int)) ∧ w1.cell? ⟨g2, j, none⟩ = some (.int .i64 (y : Int)) ∧ w1.cell? ⟨g3, k, none⟩ = some (.int .i64 (z : Int)) ∧ StQ w b off cap l g1 g2 g3 L w1 := (h.2.2.2.2.step hb).hold3 hi hx hj hy hk hz
theorem StQ.grpOf3 {i j k x y z : Nat} (h : wr.cell? ⟨w.heap.size, 0, none⟩ = some (.slice (some ⟨b, off, none⟩) l.length cap) ∧ wr.cell? ⟨g1, i, none⟩ = some (.int .i64 (x : Int)) ∧ wr.cell? ⟨g2, j, none⟩ = some (.int .i64 (y : Int)) ∧ wr.cell? ⟨g3, k, none⟩ = some (.int .i64 (z : Int)) ∧ StQ w b off cap l g1 g2 g3 L wr) : GrpAt wr b off l := h.2.2.2.2.st.grp
end
set_option maxHeartbeats 1000000 in
theorem quadruplesOf_any (b off cap : Nat) (l : List Int) (a : Int) (w : World) (hl : l.length ≤ 1099511627776) (hg : GrpAt w b off l) :
    Calls Try.prog 40 #[.agg #[.slice (some ⟨b, off, none⟩) l.length cap], .int .i64 a] w fun e w' => e = .returned (.int .i64 (quadF l a)) ∧ Below w.heap.size w w' := by
  have hst := St.init cap 27 hg
  by_cases h : isSetB l a = true
  · have h3 := isSetB_iff.1 h
    obtain ⟨m, A, hm, rfl, rfl, hA⟩ := h3
    have hr := hid (quadF_yes hm hA)
    have hA' := Nat.lt_of_lt_of_le hA hm.pow_le
    have hL24 : (mem A).length ≤ 24 := card_le A
    have hm24 : Hid (∀ i, i < (mem A).length → (mem A).getD i 0 < 24) := fun i hi => mem_lt (getD_mem _ 0 i hi)
    clear hA
    go_enter Try.func40, Try.ntmps40
    go_wp2_with (first | (go_at_call 63; refine (isSet_any _ _ _ _ _ _ hl (St.grp (by assumption))).mono ?_; rintro e wN ⟨rfl, hbN⟩; have hstN := St.step (by assumption) hbN; have hboxN := hstN.box; clear hbN))
    have hst1 : St w b off cap (cst m) wN := by assumption
    refine (members_any A _ hA').mono ?_; rintro e w1 ⟨g1, c1, rfl, hm1⟩
    have hst2 := hst1.step hm1.below
    have hg1 := hm1.grp
    have hmem := hid (members_any A)
    clear hst hst1 hm1 hg hboxN
    have hlc : (cst (mem A)).length = (mem A).length := cst_length _
    generalize mem A = L at *
    go_wp2
    go_loopw [5, 19] (fun n i wr => ∃ i' N : Nat, i = .int .i64 i' ∧ i' ≤ (cst L).length ∧ n = .int .i64 N ∧ Hid (N = qCu m A L i') ∧ St w b off cap (cst m) wr ∧ GrpAt wr g1 0 (cst L)) (fun _ i _ => (cst L).length - (intOf i).toNat)
    case atStart => exact ⟨0, 0, rfl, by omega, rfl, rfl, hst2, hg1⟩
    case round =>
      clear hst2 hg1
      rename_i wr
      obtain ⟨i, N, rfl, hi, rfl, hN, hst2, hg1⟩ := hrel
      by_cases hlt : i < (cst L).length
      · have hc1 := hg1.nat0 i hlt
        have hx24 := hm24.out i (by omega)
        have hcu := qCu_le (m := m) (A := A) hL24 (show i ≤ L.length by omega)
        rw [← hN.out] at hcu
        have hcs : Hid (N + qPl m A L (L.getD i 0) L.length = qCu m A L (i + 1)) := by unfold Hid qCu; rw [sum_take_succ (by omega), hN.out]; rfl
        generalize L.getD i 0 = x at *
        go_wp2_with fail
        refine (hmem.out _ hA').mono ?_; rintro e w3 ⟨g2, c2, rfl, hm2⟩
        have hst3 := hst2.step hm2.below
        have hg13 := hg1.below hm2.below
        have hg2 := hm2.grp
        clear hst2 hg1 hm2 hc1
        go_wp2
        go_loopw [5, 26] (fun n j wr => ∃ j' M : Nat, j = .int .i64 j' ∧ j' ≤ (cst L).length ∧ n = .int .i64 M ∧ Hid (M = N + qPl m A L x j') ∧ St w b off cap (cst m) wr ∧ GrpAt wr g1 0 (cst L) ∧ GrpAt wr g2 0 (cst L)) (fun _ j _ => (cst L).length - (intOf j).toNat)
        case atStart => exact ⟨0, N, rfl, by omega, rfl, rfl, hst3, hg13, hg2⟩
        case round =>
          clear hst3 hg13 hg2
          rename_i wr
          obtain ⟨j, M, rfl, hj, rfl, hM, hst3, hg13, hg2⟩ := hrel
          by_cases hlj : j < (cst L).length
          · have hc2 := hg2.nat0 j hlj
            have hy24 := hm24.out j (by omega)
            have hpl := qPl_le (m := m) (A := A) (x := x) hL24 (show j ≤ L.length by omega)
            have hMb : M ≤ 20000 := by rw [hM.out]; omega
            have hps : Hid (M + qRow m A L x (L.getD j 0) L.length = N + qPl m A L x (j + 1)) := by unfold Hid; rw [hM.out]; unfold qPl; rw [sum_take_succ (by omega)]; omega
            generalize L.getD j 0 = y at *
            go_wp2_with fail
            refine (hmem.out _ hA').mono ?_; rintro e w4 ⟨g3, c3, rfl, hm3⟩
            have hQ : StQ w b off cap (cst m) g1 g2 g3 L w4 := ⟨hst3.step hm3.below, hg13.below hm3.below, hg2.below hm3.below, hm3.grp⟩
            clear hst3 hg13 hg2 hm3 hc2
            go_wp2
            go_loopw [5, 33] (fun n k wr => ∃ k' R : Nat, k = .int .i64 k' ∧ k' ≤ (cst L).length ∧ n = .int .i64 R ∧ Hid (R = M + qRow m A L x y k') ∧ StQ w b off cap (cst m) g1 g2 g3 L wr) (fun _ k _ => (cst L).length - (intOf k).toNat)
            case atStart => exact ⟨0, M, rfl, by omega, rfl, rfl, hQ⟩
            case round =>
              clear hQ
              rename_i wr
              obtain ⟨k, R, rfl, hk, rfl, hR, hQ⟩ := hrel
              by_cases hlk : k < (cst L).length
              · have hc3 := hQ.l3.nat0 k hlk
                have hz24 := hm24.out k (by omega)
                have hrw := qRow_le (m := m) (A := A) (x := x) (y := y) hL24 (show k ≤ L.length by omega)
                have hRb : R ≤ 20100 := by rw [hR.out]; omega
                have hrs : Hid (R + qf m A x y (L.getD k 0) = M + qRow m A L x y (k + 1)) := by unfold Hid; rw [hR.out]; unfold qRow; rw [sum_take_succ (by omega)]; omega
                generalize L.getD k 0 = z at *
                have hh := hQ.drew.hold
                have ha1 := hm.add24 x y
                have ha2 := hm.add24 (addN m x y) (negN m z)
                have hqf : Hid (qf m A x y z = if A.testBit (addN m (addN m x y) (negN m z)) = true then 1 else 0) := rfl
                clear hQ hpl hcu hrw
                by_cases ht : A.testBit (addN m (addN m x y) (negN m z)) = true
                · have hone : Hid (R + 1 = M + qRow m A L x y (k + 1)) := by unfold Hid; rw [← hrs.out, hqf.out, if_pos ht]
                  go_wp2
                  go_region_held3 (fun w' => w'.cell? ⟨w.heap.size, 0, none⟩ = some (.slice (some ⟨b, off, none⟩) (cst m).length cap) ∧ StQ w b off cap (cst m) g1 g2 g3 L w') (first | exact hh | exact StQ.keep (by assumption) hb5 | assumption)
                    (first | (go_at_call 59; refine (add_any _ _ _ _ _ _ _ hm (by omega) (by omega) (StQ.grpOf (by assumption))).mono ?_; rintro e w5 ⟨rfl, hb5⟩) | (go_at_call 75; refine (minus_any _ _ _ _ _ _ _ hm (by omega) (by omega) (StQ.grpOf (by assumption))).mono ?_; rintro e w5 ⟨rfl, hb5⟩) | (go_at_call 65; refine (in_any A _ _ hA' (by omega)).mono ?_; rintro e w6 ⟨rfl, rfl⟩; rw [ht]))
                  have hQ5 : StQ w b off cap (cst m) g1 g2 g3 L w5 := And.right (by assumption)
                  go_wp2
                  go_roundw
                  case rel => exact ⟨k + 1, R + 1, by go_num, by omega, by go_num, hone, hQ5⟩
                  case measure => simp [intOf]; omega
                · have hf : A.testBit (addN m (addN m x y) (negN m z)) = false := by simpa using ht
                  have hone : Hid (R = M + qRow m A L x y (k + 1)) := by unfold Hid; rw [← hrs.out, hqf.out, if_neg ht]; rfl
                  clear ht
                  go_wp2
                  go_region_held3 (fun w' => w'.cell? ⟨w.heap.size, 0, none⟩ = some (.slice (some ⟨b, off, none⟩) (cst m).length cap) ∧ StQ w b off cap (cst m) g1 g2 g3 L w') (first | exact hh | exact StQ.keep (by assumption) hb5 | assumption)
                    (first | (go_at_call 59; refine (add_any _ _ _ _ _ _ _ hm (by omega) (by omega) (StQ.grpOf (by assumption))).mono ?_; rintro e w5 ⟨rfl, hb5⟩) | (go_at_call 75; refine (minus_any _ _ _ _ _ _ _ hm (by omega) (by omega) (StQ.grpOf (by assumption))).mono ?_; rintro e w5 ⟨rfl, hb5⟩) | (go_at_call 65; refine (in_any A _ _ hA' (by omega)).mono ?_; rintro e w6 ⟨rfl, rfl⟩; rw [hf]))
                  have hQ5 : StQ w b off cap (cst m) g1 g2 g3 L w5 := And.right (by assumption)
                  go_wp2
                  go_roundw
                  case rel => exact ⟨k + 1, R, by go_num, by omega, rfl, hone, hQ5⟩
                  case measure => simp [intOf]; omega
              · have hnx : Hid (R = N + qPl m A L x (j + 1)) := by unfold Hid; rw [← hps.out, hR.out, show k = L.length from by omega]
                go_wp2
                go_roundw
                case rel => exact ⟨j + 1, R, by go_num, by omega, rfl, hnx, hQ.st, hQ.l1, hQ.l2⟩
                case measure => simp [intOf]; omega
          · have hnx : Hid (M = qCu m A L (i + 1)) := by unfold Hid; rw [← hcs.out, hM.out, show j = L.length from by omega]
            go_wp2
            go_roundw
            case rel => exact ⟨i + 1, M, by go_num, by omega, rfl, hnx, hst3, hg13⟩
            case measure => simp [intOf]; omega
      · have hend : Hid (qCu m A L L.length = N) := by unfold Hid; rw [hN.out, show i = L.length from by omega]
        go_wp2
        go_ret
        exact ⟨ret_i (by rw [hr.out, hend.out]), hst2.below⟩
  · have hn : isSetB l a = false := by simpa using h
    have hr := hid (quadF_no hn)
    clear h
    go_enter Try.func40, Try.ntmps40
    go_wp2_with (first | (go_at_call 63; refine (isSet_any _ _ _ _ _ _ hl (St.grp (by assumption))).mono ?_; rintro e wN ⟨rfl, hbN⟩; have hstN := St.step (by assumption) hbN; have hboxN := hstN.box; clear hbN))
    go_ret
    exact ⟨ret_i (by rw [hr.out]), St.below (by assumption)⟩
set_option maxHeartbeats 1000000 in
theorem sQuadruplesOf_any (b off cap : Nat) (l : List Int) (a : Int) (w : World) (hl : l.length ≤ 1099511627776) (hg : GrpAt w b off l) :
    Calls Try.prog 39 #[.agg #[.slice (some ⟨b, off, none⟩) l.length cap], .int .i64 a] w fun e w' => e = .returned (.int .i64 (quadF l a)) ∧ Below w.heap.size w w' := by
  have hst := St.init cap 27 hg
  by_cases h : isSetB l a = true
  · have h3 := isSetB_iff.1 h
    obtain ⟨m, A, hm, rfl, rfl, hA⟩ := h3
    have hr := hid (quadF_yes hm hA)
    have hA' := Nat.lt_of_lt_of_le hA hm.pow_le
    have hL24 : (mem A).length ≤ 24 := card_le A
    have hm24 : Hid (∀ i, i < (mem A).length → (mem A).getD i 0 < 24) := fun i hi => mem_lt (getD_mem _ 0 i hi)
    clear hA
    go_enter Try.func39, Try.ntmps39
    go_wp2_with (first | (go_at_call 60; refine (sIsSet_any _ _ _ _ _ _ hl (St.grp (by assumption))).mono ?_; rintro e wN ⟨rfl, hbN⟩; have hstN := St.step (by assumption) hbN; have hboxN := hstN.box; clear hbN))
    have hst1 : St w b off cap (cst m) wN := by assumption
    refine (l3List_any A _ hA').mono ?_; rintro e w1 ⟨g, c1, rfl, hm1⟩
    have hQ0 : StQ w b off cap (cst m) g g g (mem A) w1 := ⟨hst1.step hm1.below, hm1.grp, hm1.grp, hm1.grp⟩
    clear hst hst1 hm1 hg hboxN
    have hlc := hid (cst_length (mem A))
    have hlc24 : (cst (mem A)).length ≤ 24 := by rw [cst_length]; exact hL24
    generalize mem A = L at *
    go_wp2
    go_loopw [6, 7] (fun n i wr => ∃ i' N : Nat, i = .int .i64 i' ∧ i' ≤ (cst L).length ∧ n = .int .i64 N ∧ Hid (N = qCu m A L i') ∧ StQ w b off cap (cst m) g g g L wr) (fun _ i _ => (cst L).length - (intOf i).toNat)
    case atStart => exact ⟨0, 0, rfl, by omega, rfl, rfl, hQ0⟩
    case round =>
      clear hQ0
      rename_i wr
      obtain ⟨i, N, rfl, hi, rfl, hN, hQ1⟩ := hrel
      by_cases hlt : i < (cst L).length
      · have hcu := qCu_le (m := m) (A := A) hL24 (show i ≤ L.length by have := hlc.out; omega)
        rw [← hN.out] at hcu
        obtain ⟨x, hx⟩ : ∃ x, Hid (L.getD i 0 = x) := ⟨_, rfl⟩
        have hx24 := hm24.out i (by have := hlc.out; omega)
        have hcs : Hid (N + qPl m A L (L.getD i 0) L.length = qCu m A L (i + 1)) := by unfold Hid qCu; rw [sum_take_succ (by have := hlc.out; omega), hN.out]; rfl
        rw [hx.out] at hcs hx24
        go_wp2
        go_loopw [6, 8] (fun n j wr => ∃ j' M : Nat, j = .int .i64 j' ∧ j' ≤ (cst L).length ∧ n = .int .i64 M ∧ Hid (M = N + qPl m A L x j') ∧ StQ w b off cap (cst m) g g g L wr) (fun _ j _ => (cst L).length - (intOf j).toNat)
        case atStart => exact ⟨0, N, rfl, by omega, rfl, rfl, hQ1⟩
        case round =>
          clear hQ1
          rename_i wr
          obtain ⟨j, M, rfl, hj, rfl, hM, hQ2⟩ := hrel
          by_cases hlj : j < (cst L).length
          · have hpl := qPl_le (m := m) (A := A) (x := x) hL24 (show j ≤ L.length by have := hlc.out; omega)
            have hMb : M ≤ 20000 := by rw [hM.out]; omega
            obtain ⟨y, hy⟩ : ∃ y, Hid (L.getD j 0 = y) := ⟨_, rfl⟩
            have hy24 := hm24.out j (by have := hlc.out; omega)
            have hps : Hid (M + qRow m A L x (L.getD j 0) L.length = N + qPl m A L x (j + 1)) := by unfold Hid; rw [hM.out]; unfold qPl; rw [sum_take_succ (by have := hlc.out; omega)]; omega
            rw [hy.out] at hps hy24
            go_wp2
            go_loopw [6, 9] (fun n k wr => ∃ k' R : Nat, k = .int .i64 k' ∧ k' ≤ (cst L).length ∧ n = .int .i64 R ∧ Hid (R = M + qRow m A L x y k') ∧ StQ w b off cap (cst m) g g g L wr) (fun _ k _ => (cst L).length - (intOf k).toNat)
            case atStart => exact ⟨0, M, rfl, by omega, rfl, rfl, hQ2⟩
            case round =>
              clear hQ2
              rename_i wr
              obtain ⟨k, R, rfl, hk, rfl, hR, hQ⟩ := hrel
              by_cases hlk : k < (cst L).length
              · have hz24 := hm24.out k (by have := hlc.out; omega)
                have hrw := qRow_le (m := m) (A := A) (x := x) (y := y) hL24 (show k ≤ L.length by have := hlc.out; omega)
                have hRb : R ≤ 20100 := by rw [hR.out]; omega
                obtain ⟨z, hz⟩ : ∃ z, Hid (L.getD k 0 = z) := ⟨_, rfl⟩
                have hrs : Hid (R + qf m A x y (L.getD k 0) = M + qRow m A L x y (k + 1)) := by unfold Hid; rw [hR.out]; unfold qRow; rw [sum_take_succ (by have := hlc.out; omega)]; omega
                rw [hz.out] at hrs hz24
                have hh := hQ.drew.hold3 hlt hx hlj hy hlk hz
                have ha1 := hm.add24 x y
                have ha3 := hm.neg24 z
                have ha2 := hm.add24 (addN m x y) (negN m z)
                have hsa := hid (shr_and1 (addN m (addN m x y) (negN m z)) hA')
                have hqf : Hid (qf m A x y z = if A.testBit (addN m (addN m x y) (negN m z)) = true then 1 else 0) := rfl
                rw [← hqf.out] at hsa
                have hq1 := qf_le m A x y z
                generalize qf m A x y z = Z at *
                clear hQ hpl hcu hrw hqf
                go_wp2
                go_region_held3 (fun w' => w'.cell? ⟨w.heap.size, 0, none⟩ = some (.slice (some ⟨b, off, none⟩) (cst m).length cap) ∧ w'.cell? ⟨g, i, none⟩ = some (.int .i64 (x : Int)) ∧ w'.cell? ⟨g, j, none⟩ = some (.int .i64 (y : Int)) ∧ w'.cell? ⟨g, k, none⟩ = some (.int .i64 (z : Int)) ∧ StQ w b off cap (cst m) g g g L w') (first | exact hh | exact StQ.keep3 (by assumption) hlt hx hlj hy hlk hz hb5 | assumption)
                  (first | (go_at_call 54; refine (l2Add_any _ _ _ _ _ _ _ hm (by omega) (by omega) (StQ.grpOf3 (by assumption))).mono ?_; rintro e w5 ⟨rfl, hb5⟩) | (go_at_call 74; refine (l2Negate_any _ _ _ _ _ _ hm (by omega) (StQ.grpOf3 (by assumption))).mono ?_; rintro e w5 ⟨rfl, hb5⟩))
                all_goals
                  have hQ5 : StQ w b off cap (cst m) g g g L w5 := And.right (And.right (And.right (And.right (by assumption))))
                  generalize addN m (addN m x y) (negN m z) = q at *
                  go_wp2
                  go_roundw
                  case rel => exact ⟨k + 1, R + Z, by go_num, by omega, val_i (by rw [hsa.out, IntWalk.wrap64_in _ (by omega)]; simp), hrs, hQ5⟩
                  case measure => simp [intOf]; omega
              · have hnx : Hid (R = N + qPl m A L x (j + 1)) := by unfold Hid; rw [← hps.out, hR.out, show k = L.length from by have := hlc.out; omega]
                go_wp2
                go_roundw
                case rel => exact ⟨j + 1, R, by go_num, by omega, rfl, hnx, hQ⟩
                case measure => simp [intOf]; omega
          · have hnx : Hid (M = qCu m A L (i + 1)) := by unfold Hid; rw [← hcs.out, hM.out, show j = L.length from by have := hlc.out; omega]
            go_wp2
            go_roundw
            case rel => exact ⟨i + 1, M, by go_num, by omega, rfl, hnx, hQ2⟩
            case measure => simp [intOf]; omega
      · have hend : Hid (qCu m A L L.length = N) := by unfold Hid; rw [hN.out, show i = L.length from by have := hlc.out; omega]
        go_wp2
        go_ret
        exact ⟨ret_i (by rw [hr.out, hend.out]), hQ1.st.below⟩
  · have hn : isSetB l a = false := by simpa using h
    have hr := hid (quadF_no hn)
    clear h
    go_enter Try.func39, Try.ntmps39
    go_wp2_with (first | (go_at_call 60; refine (sIsSet_any _ _ _ _ _ _ hl (St.grp (by assumption))).mono ?_; rintro e wN ⟨rfl, hbN⟩; have hstN := St.step (by assumption) hbN; have hboxN := hstN.box; clear hbN))
    go_ret
    exact ⟨ret_i (by rw [hr.out]), St.below (by assumption)⟩
end Go.Proofs.Ytalflbnplgmlpaa
