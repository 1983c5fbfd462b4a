/-
  Contracts: what is read off the table of sums: energies, popular sums, triples.
-/
import Derived.Test.YtalflbnplgmlpaaTable
import Derived.BigQuiet
import Derived.Deep.QuietTactic
namespace Go.Proofs.Ytalflbnplgmlpaa
open Go.RowKit

theorem tab_len (m : List Nat) (A B : Nat) : (tabN m A B).length = prodN m := cntTo_len _ _
theorem tab_le (m : List Nat) (A B z : Nat) : (tabN m A B).getD z 0 ≤ 600 := by
  by_cases h : z < prodN m
  · unfold tabN; rw [cntTo_getD h, ← pairsTo_end (i := (mem A).length) (Nat.le_refl _)]
    exact pairsTo_bd (card_le A) (card_le B)
  · rw [List.getD_eq_getElem?_getD, List.getElem?_eq_none (by rw [tab_len]; omega)]; simp
/-- the sum of the squares before place k -/
def sqTo (T : List Nat) (k : Nat) : Nat := ((T.take k).map fun x => x * x).sum
theorem sqTo_succ {T : List Nat} {k : Nat} (h : k < T.length) : sqTo T (k + 1) = sqTo T k + T.getD k 0 * T.getD k 0 := by
  unfold sqTo; rw [take_snoc T 0 k h]; simp
theorem sqTo_bd {T : List Nat} (hT : ∀ z, T.getD z 0 ≤ 600) (k : Nat) (hk : k ≤ T.length) : sqTo T k ≤ k * 360000 := by
  induction k with
  | zero => simp [sqTo]
  | succ k ih =>
    rw [sqTo_succ hk]
    have h1 := ih (by omega)
    have h2 : T.getD k 0 * T.getD k 0 ≤ 600 * 600 := Nat.mul_le_mul (hT k) (hT k)
    omega
def energyF (l : List Int) (a b : Int) : Int := if two l a b = true then (sqTo (tabN (toN l) a.toNat b.toNat) (prodN (toN l)) : Nat) else -1
theorem energyF_yes {m : List Nat} {A B : Nat} (hm : Ok m) (hA : A < 2 ^ prodN m) (hB : B < 2 ^ prodN m) : energyF (cst m) A B = (sqTo (tabN m A B) (prodN m) : Nat) := by
  unfold energyF; rw [if_pos (two_iff.2 ⟨m, A, B, hm, rfl, rfl, rfl, hA, hB⟩), toN_cst, Int.toNat_natCast, Int.toNat_natCast]
theorem energyF_no {l : List Int} {a b : Int} (h : two l a b = false) : energyF l a b = -1 := by unfold energyF; rw [if_neg (by simp [h])]
set_option maxHeartbeats 400000 in
theorem energyOf_any (b off cap : Nat) (l : List Int) (x y : Int) (w : World) (hl : l.length ≤ 1099511627776) (hg : GrpAt w b off l) :
    Calls Try.prog 42 #[.agg #[.slice (some ⟨b, off, none⟩) l.length cap], .int .i64 x, .int .i64 y] w fun e w' => e = .returned (.int .i64 (energyF l x y)) ∧ Below w.heap.size w w' := by
  have hst := St.init cap 27 hg
  have hst1 := hst.step ((Below.refl _ _).alloc (Nat.le_refl _) (.cells #[.int .i64 x, .int .i64 y] 3))
  have hg2 := GrpAt.two (w.alloc (.cells #[.slice (some ⟨b, off, none⟩) l.length cap] 27)) x y 3 (w.heap.size + 1) (by simp)
  go_enter Try.func42, Try.ntmps42
  go_wp2_with fail
  refine (areSets_two _ _ _ _ _ _ _ _ _ hl hst1.grp hg2).mono ?_; rintro e w1 ⟨rfl, hb1⟩; have hst2 := hst1.step hb1; have hbox2 := hst2.box
  clear hst hst1 hg2 hb1 hg
  by_cases h : two l x y = true
  · obtain ⟨m, A, B, hm, rfl, rfl, rfl, hA, hB⟩ := two_iff.1 h
    have hr := hid (energyF_yes hm hA hB)
    have hord := hm.ord
    go_wp2_with fail
    refine (sumTable_yes _ _ _ _ _ _ _ hm hA hB hst2.grp).mono ?_; rintro e w3 ⟨g, gc, rfl, hmade⟩
    have hst3 := hst2.step hmade.below
    have hc := hmade.grp.nat0
    have hlen : (cst (tabN m A B)).length ≤ 24 := by rw [cst_length, tab_len]; exact hm.ord
    have hlen2 := hid (tab_len m A B)
    have hbd := tab_le m A B
    clear hmade hst2 hbox2 hA hB
    generalize tabN m A B = T at *
    have hbd' := hid hbd
    clear hbd
    go_wp2
    go_loop [7, 21] (fun n i => ∃ k : Nat, i = .int .i64 k ∧ k ≤ (cst T).length ∧ n = .int .i64 (sqTo T k : Nat)) (fun _ i => (cst T).length - (intOf i).toNat)
    case atStart => exact ⟨0, rfl, by omega, rfl⟩
    case round =>
      obtain ⟨k, rfl, hk, rfl⟩ := hrel
      by_cases hlt : k < (cst T).length
      · have hck := hc k hlt
        have hs : Hid (sqTo T (k + 1) = sqTo T k + T.getD k 0 * T.getD k 0) := sqTo_succ (by rw [← cst_length]; exact hlt)
        have h1 := sqTo_bd hbd'.out k (by rw [← cst_length]; omega)
        have h2 := hbd'.out k
        have h3 : T.getD k 0 * T.getD k 0 ≤ 600 * 600 := Nat.mul_le_mul h2 h2
        clear hc
        generalize T.getD k 0 = t at *
        generalize sqTo T k = s at *
        have h3i : 0 ≤ (t : Int) * t ∧ (t : Int) * t ≤ 360000 := by
          have : ((t * t : Nat) : Int) ≤ 360000 := by omega
          refine ⟨Int.mul_nonneg (by omega) (by omega), by simpa using this⟩
        clear h3
        go_wp2
        go_round
        case rel => exact ⟨k + 1, by go_num, by omega, by rw [hs.out]; exact val_i (by simp)⟩
        case measure => simp [intOf]; omega
      · have he : Hid (sqTo T k = sqTo T (prodN m)) := by unfold Hid sqTo; rw [List.take_of_length_le (by rw [← cst_length]; omega), List.take_of_length_le (by rw [hlen2.out]; omega)]
        go_wp2
        go_ret
        exact ⟨ret_i (by rw [hr.out, he.out]), hst3.below⟩
  · have hn : two l x y = false := by simpa using h
    have hr := hid (energyF_no hn)
    clear h
    go_wp2
    go_ret
    exact ⟨ret_i (by rw [hr.out]), hst2.below⟩
set_option maxHeartbeats 400000 in
theorem sEnergyOf_any (b off cap : Nat) (l : List Int) (x y : Int) (w : World) (hl : l.length ≤ 1099511627776) (hg : GrpAt w b off l) :
    Calls Try.prog 41 #[.agg #[.slice (some ⟨b, off, none⟩) l.length cap], .int .i64 x, .int .i64 y] w fun e w' => e = .returned (.int .i64 (energyF l x y)) ∧ Below w.heap.size w w' := by
  have hst := St.init cap 27 hg
  go_enter Try.func41, Try.ntmps41
  go_wp2_with fail
  refine (sSumTable_any _ _ _ _ _ _ _ hl hst.grp).mono ?_; rintro e w3 ⟨g, gc, rfl, hmade⟩
  have hst3 := hst.step hmade.below
  clear hst hg
  by_cases h : two l x y = true
  · obtain ⟨m, A, B, hm, rfl, rfl, rfl, hA, hB⟩ := two_iff.1 h
    have hr := hid (energyF_yes hm hA hB)
    have hord := hm.ord
    rw [tabF_yes hm hA hB] at hmade ⊢
    have hc := hmade.grp.nat0
    have hlen : (cst (tabN m A B)).length ≤ 24 := by rw [cst_length, tab_len]; exact hm.ord
    have hlen0 : 0 < (cst (tabN m A B)).length := by rw [cst_length, tab_len]; exact hm.pos
    have hlz : (((cst (tabN m A B)).length : Int) == 0) = false := by rw [beq_eq_false_iff_ne]; omega
    have hlen2 := hid (tab_len m A B)
    have hbd' := hid (tab_le m A B)
    clear hmade hA hB
    generalize tabN m A B = T at *
    go_wp2
    go_loopw [8, 9] (fun n i wr => ∃ k : Nat, i = .int .i64 k ∧ k ≤ (cst T).length ∧ n = .int .i64 (sqTo T k : Nat) ∧ ∃ q, wr = w3.drewN q) (fun _ i _ => (cst T).length - (intOf i).toNat)
    case atStart => exact ⟨0, rfl, by omega, rfl, 0, rfl⟩
    case round =>
      obtain ⟨k, rfl, hk, rfl, q, rfl⟩ := hrel
      by_cases hlt : k < (cst T).length
      · have hck := hc k hlt
        have hki : (k : Int) < ((cst T).length : Int) := by omega
        have hs : Hid (sqTo T (k + 1) = sqTo T k + T.getD k 0 * T.getD k 0) := sqTo_succ (by rw [← cst_length]; exact hlt)
        have h1 := sqTo_bd hbd'.out k (by rw [← cst_length]; omega)
        have h2 := hbd'.out k
        have h3 : T.getD k 0 * T.getD k 0 ≤ 600 * 600 := Nat.mul_le_mul h2 h2
        clear hc
        generalize T.getD k 0 = t at *
        generalize sqTo T k = s at *
        have h3i : 0 ≤ (t : Int) * t ∧ (t : Int) * t ≤ 360000 := by
          have : ((t * t : Nat) : Int) ≤ 360000 := by omega
          refine ⟨Int.mul_nonneg (by omega) (by omega), by simpa using this⟩
        clear h3
        have hw1 := hid (IntWalk.wrap64_in ((t : Int) * t) (by omega))
        have hw2 := hid (IntWalk.wrap64_in ((s : Int) + (t : Int) * t) (by omega))
        go_wp2
        go_quiet (fail)
        go_wp2
        go_roundw
        case rel => exact ⟨k + 1, by go_num, by omega, by rw [hs.out]; exact val_i (by first | (rw [hw1.out, hw2.out]; simp) | simp), _, rfl⟩
        case measure => simp [intOf]; omega
      · have he : Hid (sqTo T k = sqTo T (prodN m)) := by unfold Hid sqTo; rw [List.take_of_length_le (by rw [← cst_length]; omega), List.take_of_length_le (by rw [hlen2.out]; omega)]
        go_wp2
        go_ret
        exact ⟨ret_i (by rw [hr.out, he.out]), (hst3.drewN q).below⟩
  · have hn : two l x y = false := by simpa using h
    have hr := hid (energyF_no hn)
    rw [tabF_no hn] at hmade ⊢
    clear h
    go_wp2
    go_ret
    exact ⟨ret_i (by rw [hr.out]), hst3.below⟩
end Go.Proofs.Ytalflbnplgmlpaa
