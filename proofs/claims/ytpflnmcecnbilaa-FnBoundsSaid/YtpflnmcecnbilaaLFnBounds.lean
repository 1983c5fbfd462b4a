/-
  Proved: FnBounds returns true for every code: the bounds of Cauchy and Davenport, and of Chowla, hold.
  Conditions: none.
-/
import Derived.Test.YtpflnmcecnbilaaLaw6
import Derived.Test.YtpflnmcecnbilaaFBnd
import Derived.Test.YtpflnmcecnbilaaCauchy
import Derived.Test.YtpflnmcecnbilaaChowla
import Derived.Test.YtpflnmcecnbilaaDefect
import Derived.Test.YtpflnmcecnbilaaTight
import Derived.Test.YtpflnmcecnbilaaTight2
import Derived.Test.YtpflnmcecnbilaaKneser
import Derived.Test.YtpflnmcecnbilaaDraw12
import Derived.Test.YtpflnmcecnbilaaDraw13
import Derived.Deep.RegionHeld3
import Derived.BigRegion
import Derived.Deep.Cut
import Derived.Deep.QuietTactic
import Derived.BigQuiet
namespace Go.Proofs.Ytpflnmcecnbilaa.lawFnBounds
open Go.ChangeShapes Go.WideShapes Go.ChangeAt Go.RowKit

set_option maxRecDepth 4000 in
set_option maxHeartbeats 8000000 in
theorem walk (a : Option Addr) (cp n : Nat) (w : World) (hl : n ≤ 9223372036854775807) (hb : BytesV w a n) :
    Calls Try.prog 8 #[.slice a n cp] w fun e w' => e = .returned (.bool true) ∧ Below w.heap.size w w' := by
  have hB0 := Bag.init w
  by_cases hn : n ≤ 1048576
  · have hI : ¬ (1048576 : Int) < (n : Int) := by omega
    go_enter Try.func8, Try.ntmps8
    go_wp2_with fail
    refine (big_any a n cp w).mono ?_; rintro e w' ⟨rfl, rfl⟩
    go_wp2_with fail
    refine (DrawCauchyBound_any a n cp w (by omega) (hB0.code hb)).mono ?_; rintro e wv1 ⟨bA, cA, lA, xA1, xA2, rfl, -, hlA, hgA, hxA1, hxA2, hbel⟩
    have hBA := ((hB0.step hbel).addG hgA).box (.slice (some ⟨bA, 0, none⟩) lA.length cA) 26
    clear hbel hgA hB0
    generalize hk : wv1.heap.size = kA at *
    have hc1 := hBA.cell (k := kA) (v := .slice (some ⟨bA, 0, none⟩) lA.length cA) (by simp)
    go_wp2_with fail
    generalize wv1.alloc (.cells #[.slice (some ⟨bA, 0, none⟩) lA.length cA] 26) = wA at *
    clear hk
    refine (cauchyBound_any bA 0 cA lA xA1 xA2 wA (by omega) (hBA.grp (by simp))).mono ?_; rintro e wv2 ⟨rfl, hbel⟩
    have hB2 := hBA.step hbel
    clear hbel hBA
    clear hc1
    have hc2 := hB2.cell (k := kA) (v := .slice (some ⟨bA, 0, none⟩) lA.length cA) (by simp)
    go_wp2_with fail
    obtain ⟨N, hN⟩ : ∃ N, Hid (cauchyF lA xA1 xA2 = N) := ⟨_, rfl⟩
    have hlaw := hid (cauchy_law (l := lA) (a := xA1) (b := xA2))
    rw [hN.out] at hlaw ⊢
    go_cut [6, 60] from 29 (fun s t wr => s = .int .i64 N ∧ t = .bool false ∧ Bag w [(kA, .slice (some ⟨bA, 0, none⟩) lA.length cA)] [(bA, lA)] wr)
    case first => as_aux_lemma =>
      by_cases hN0 : 0 ≤ N
      · have hN1 : ¬ N < 0 := by omega
        have hlt : ¬ countF lA (sumF lA xA1 xA2) < N := by have := hlaw.out hN0; omega
        clear hlaw
        generalize hC : countF lA (sumF lA xA1 xA2) = Cn at *
        have hCn := hid hC
        clear hC
        have hS0 := And.intro (Bag.cell (k := kA) (v := .slice (some ⟨bA, 0, none⟩) lA.length cA) (hB2.drew) (by simp)) (hB2.drew)
        clear hB2 hc2
        refine wp_region_held_drew (S := fun w' => w'.cell? ⟨kA, 0, none⟩ = some (.slice (some ⟨bA, 0, none⟩) lA.length cA) ∧ Bag w [(kA, .slice (some ⟨bA, 0, none⟩) lA.length cA)] [(bA, lA)] w') (by kernel_rfl) hS0 (fun hHeld => ?_)
        clear hS0
        (refine wpAnyH_take (i := 0) (oi := ?oi1) (v := ?v1) ?hi1 (by kernel_rfl) (by kernel_rfl) (by kernel_rfl) ?hq1 ?hy1 (by assumption) ?hr1; (case hi1 => ((simp only [List.getElem?_toArray, List.getElem?_cons_zero]); exact rfl)); (case hq1 => exact fun _ _ _ h => h); (case hy1 => (refine Or.inl ⟨by rfl, ?_⟩; (intro w hSw); (try dsimp only at hSw); go_simp; (try with_reducible rfl))); (try simp only [Act.put, List.setIfInBounds_toArray, List.set_cons_zero, List.set_cons_succ])); (refine wpAnyH_take (i := 1) (oi := ?oi2) (v := ?v2) ?hi2 (by kernel_rfl) (by kernel_rfl) (by kernel_rfl) ?hq2 ?hy2 (by assumption) ?hr2; (case hi2 => ((simp only [List.getElem?_toArray, List.getElem?_cons_zero, List.getElem?_cons_succ]); exact rfl)); (case hq2 => exact fun _ _ _ h => h); (case hy2 => (refine Or.inl ⟨by rfl, ?_⟩; (intro w hSw); (try dsimp only at hSw); go_simp; (try with_reducible rfl))); (try simp only [Act.put, List.setIfInBounds_toArray, List.set_cons_zero, List.set_cons_succ])); (refine wpAnyH_take (i := 2) (oi := ?oi3) (v := ?v3) ?hi3 (by kernel_rfl) (by kernel_rfl) (by kernel_rfl) ?hq3 ?hy3 (by assumption) ?hr3; (case hi3 => ((simp only [List.getElem?_toArray, List.getElem?_cons_zero, List.getElem?_cons_succ]); exact rfl)); (case hq3 => exact fun _ _ _ h => h); (case hy3 => (refine Or.inl ⟨by rfl, ?_⟩; (intro w hSw); (try dsimp only at hSw); go_simp; (try with_reducible rfl))); (try simp only [Act.put, List.setIfInBounds_toArray, List.set_cons_zero, List.set_cons_succ])); (refine wpAnyH_take (i := 3) (oi := ?oi4) (v := ?v4) ?hi4 (by kernel_rfl) (by kernel_rfl) (by kernel_rfl) ?hq4 ?hy4 (by assumption) ?hr4; (case hi4 => ((simp only [List.getElem?_toArray, List.getElem?_cons_zero, List.getElem?_cons_succ]); exact rfl)); (case hq4 => exact fun _ _ _ h => h); (case hy4 => (refine Or.inl ⟨by rfl, ?_⟩; (intro w hSw); (try dsimp only at hSw); go_simp; (try with_reducible rfl))); (try simp only [Act.put, List.setIfInBounds_toArray, List.set_cons_zero, List.set_cons_succ]))
        refine wpAnyH_ready (rs := [4]) (by kernel_rfl) (by simp) ?_; refine AllReadyH.cons rfl (fun K hK => ?_) AllReadyH.nil; go_simp
        (go_at_call 80; refine (sCauchyBound_any bA 0 cA lA xA1 xA2 _ (by omega) (Bag.grp (And.right hHeld) (by simp))).mono ?_; rintro e wv3 ⟨rfl, hbel⟩; rw [hN.out])
        go_wp2_with fail
        refine hK.out _ _ ?ks (fun hHeld => ?_); (case ks => (exact And.intro (Bag.cell (k := kA) (v := .slice (some ⟨bA, 0, none⟩) lA.length cA) (Bag.step (And.right hHeld) hbel) (by simp)) (Bag.step (And.right hHeld) hbel))); clear hK K; (try simp only [Act.put, List.setIfInBounds_toArray, List.set_cons_zero, List.set_cons_succ])
        clear hbel
        (refine wpAnyH_take (i := 5) (oi := ?oi5) (v := ?v5) ?hi5 (by kernel_rfl) (by kernel_rfl) (by kernel_rfl) ?hq5 ?hy5 (by assumption) ?hr5; (case hi5 => ((simp only [List.getElem?_toArray, List.getElem?_cons_zero, List.getElem?_cons_succ]); exact rfl)); (case hq5 => exact fun _ _ _ h => h); (case hy5 => (refine Or.inl ⟨by rfl, ?_⟩; (intro w hSw); (try dsimp only at hSw); go_simp; (try with_reducible rfl))); (try simp only [Act.put, List.setIfInBounds_toArray, List.set_cons_zero, List.set_cons_succ])); (refine wpAnyH_take (i := 6) (oi := ?oi6) (v := ?v6) ?hi6 (by kernel_rfl) (by kernel_rfl) (by kernel_rfl) ?hq6 ?hy6 (by assumption) ?hr6; (case hi6 => ((simp only [List.getElem?_toArray, List.getElem?_cons_zero, List.getElem?_cons_succ]); exact rfl)); (case hq6 => exact fun _ _ _ h => h); (case hy6 => (refine Or.inl ⟨by rfl, ?_⟩; (intro w hSw); (try dsimp only at hSw); go_simp; (try with_reducible rfl))); (try simp only [Act.put, List.setIfInBounds_toArray, List.set_cons_zero, List.set_cons_succ])); (refine wpAnyH_take (i := 7) (oi := ?oi7) (v := ?v7) ?hi7 (by kernel_rfl) (by kernel_rfl) (by kernel_rfl) ?hq7 ?hy7 (by assumption) ?hr7; (case hi7 => ((simp only [List.getElem?_toArray, List.getElem?_cons_zero, List.getElem?_cons_succ]); exact rfl)); (case hq7 => exact fun _ _ _ h => h); (case hy7 => (refine Or.inl ⟨by rfl, ?_⟩; (intro w hSw); (try dsimp only at hSw); go_simp; (try with_reducible rfl))); (try simp only [Act.put, List.setIfInBounds_toArray, List.set_cons_zero, List.set_cons_succ])); (refine wpAnyH_take (i := 8) (oi := ?oi8) (v := ?v8) ?hi8 (by kernel_rfl) (by kernel_rfl) (by kernel_rfl) ?hq8 ?hy8 (by assumption) ?hr8; (case hi8 => ((simp only [List.getElem?_toArray, List.getElem?_cons_zero, List.getElem?_cons_succ]); exact rfl)); (case hq8 => exact fun _ _ _ h => h); (case hy8 => (refine Or.inl ⟨by rfl, ?_⟩; (intro w hSw); (try dsimp only at hSw); go_simp; (try with_reducible rfl))); (try simp only [Act.put, List.setIfInBounds_toArray, List.set_cons_zero, List.set_cons_succ])); (refine wpAnyH_take (i := 9) (oi := ?oi9) (v := ?v9) ?hi9 (by kernel_rfl) (by kernel_rfl) (by kernel_rfl) ?hq9 ?hy9 (by assumption) ?hr9; (case hi9 => ((simp only [List.getElem?_toArray, List.getElem?_cons_zero, List.getElem?_cons_succ]); exact rfl)); (case hq9 => exact fun _ _ _ h => h); (case hy9 => (refine Or.inl ⟨by rfl, ?_⟩; (intro w hSw); (try dsimp only at hSw); go_simp; (try with_reducible rfl))); (try simp only [Act.put, List.setIfInBounds_toArray, List.set_cons_zero, List.set_cons_succ])); (refine wpAnyH_take (i := 10) (oi := ?oi10) (v := ?v10) ?hi10 (by kernel_rfl) (by kernel_rfl) (by kernel_rfl) ?hq10 ?hy10 (by assumption) ?hr10; (case hi10 => ((simp only [List.getElem?_toArray, List.getElem?_cons_zero, List.getElem?_cons_succ]); exact rfl)); (case hq10 => exact fun _ _ _ h => h); (case hy10 => (refine Or.inl ⟨by rfl, ?_⟩; (intro w hSw); (try dsimp only at hSw); go_simp; (try with_reducible rfl))); (try simp only [Act.put, List.setIfInBounds_toArray, List.set_cons_zero, List.set_cons_succ])); (refine wpAnyH_take (i := 11) (oi := ?oi11) (v := ?v11) ?hi11 (by kernel_rfl) (by kernel_rfl) (by kernel_rfl) ?hq11 ?hy11 (by assumption) ?hr11; (case hi11 => ((simp only [List.getElem?_toArray, List.getElem?_cons_zero, List.getElem?_cons_succ]); exact rfl)); (case hq11 => exact fun _ _ _ h => h); (case hy11 => (refine Or.inl ⟨by rfl, ?_⟩; (intro w hSw); (try dsimp only at hSw); go_simp; (try with_reducible rfl))); (try simp only [Act.put, List.setIfInBounds_toArray, List.set_cons_zero, List.set_cons_succ])); (refine wpAnyH_take (i := 12) (oi := ?oi12) (v := ?v12) ?hi12 (by kernel_rfl) (by kernel_rfl) (by kernel_rfl) ?hq12 ?hy12 (by assumption) ?hr12; (case hi12 => ((simp only [List.getElem?_toArray, List.getElem?_cons_zero, List.getElem?_cons_succ]); exact rfl)); (case hq12 => exact fun _ _ _ h => h); (case hy12 => (refine Or.inl ⟨by rfl, ?_⟩; (intro w hSw); (try dsimp only at hSw); go_simp; (try with_reducible rfl))); (try simp only [Act.put, List.setIfInBounds_toArray, List.set_cons_zero, List.set_cons_succ])); (refine wpAnyH_take (i := 13) (oi := ?oi13) (v := ?v13) ?hi13 (by kernel_rfl) (by kernel_rfl) (by kernel_rfl) ?hq13 ?hy13 (by assumption) ?hr13; (case hi13 => ((simp only [List.getElem?_toArray, List.getElem?_cons_zero, List.getElem?_cons_succ]); exact rfl)); (case hq13 => exact fun _ _ _ h => h); (case hy13 => (refine Or.inl ⟨by rfl, ?_⟩; (intro w hSw); (try dsimp only at hSw); go_simp; (try with_reducible rfl))); (try simp only [Act.put, List.setIfInBounds_toArray, List.set_cons_zero, List.set_cons_succ]))
        (refine wpAnyH_take (i := 16) (oi := ?oi14) (v := ?v14) ?hi14 (by kernel_rfl) (by kernel_rfl) (by kernel_rfl) ?hq14 ?hy14 (by assumption) ?hr14; (case hi14 => ((simp only [List.getElem?_toArray, List.getElem?_cons_zero, List.getElem?_cons_succ]); exact rfl)); (case hq14 => exact fun _ _ _ h => h); (case hy14 => (refine Or.inl ⟨by rfl, ?_⟩; (intro w hSw); (try dsimp only at hSw); go_simp; (try with_reducible rfl))); (try simp only [Act.put, List.setIfInBounds_toArray, List.set_cons_zero, List.set_cons_succ]))
        refine wpAnyH_ready (rs := [14]) (by kernel_rfl) (by simp) ?_; refine AllReadyH.cons rfl (fun K hK => ?_) AllReadyH.nil; go_simp
        (go_at_call 70; refine (sSumOfSets_any bA 0 cA lA xA1 xA2 _ (by omega) (Bag.grp (And.right hHeld) (by simp))).mono ?_; rintro e wv4 ⟨rfl, hbel⟩)
        go_wp2_with fail
        refine hK.out _ _ ?ks (fun hHeld => ?_); (case ks => (exact And.intro (Bag.cell (k := kA) (v := .slice (some ⟨bA, 0, none⟩) lA.length cA) (Bag.step (And.right hHeld) hbel) (by simp)) (Bag.step (And.right hHeld) hbel))); clear hK K; (try simp only [Act.put, List.setIfInBounds_toArray, List.set_cons_zero, List.set_cons_succ])
        clear hbel
        refine wpAnyH_ready (rs := [15]) (by kernel_rfl) (by simp) ?_; refine AllReadyH.cons rfl (fun K hK => ?_) AllReadyH.nil; go_simp
        (go_at_call 40; refine (sCountSet_any bA 0 cA lA (sumF lA xA1 xA2) _ (by omega) (Bag.grp (And.right hHeld) (by simp))).mono ?_; rintro e wv5 ⟨rfl, hbel⟩; rw [hCn.out])
        go_wp2_with fail
        refine hK.out _ _ ?ks (fun hHeld => ?_); (case ks => (exact And.intro (Bag.cell (k := kA) (v := .slice (some ⟨bA, 0, none⟩) lA.length cA) (Bag.step (And.right hHeld) hbel) (by simp)) (Bag.step (And.right hHeld) hbel))); clear hK K; (try simp only [Act.put, List.setIfInBounds_toArray, List.set_cons_zero, List.set_cons_succ])
        clear hbel
        (refine wpAnyH_take (i := 17) (oi := ?oi15) (v := ?v15) ?hi15 (by kernel_rfl) (by kernel_rfl) (by kernel_rfl) ?hq15 ?hy15 (by assumption) ?hr15; (case hi15 => ((simp only [List.getElem?_toArray, List.getElem?_cons_zero, List.getElem?_cons_succ]); exact rfl)); (case hq15 => exact fun _ _ _ h => h); (case hy15 => (refine Or.inl ⟨by rfl, ?_⟩; (intro w hSw); (try dsimp only at hSw); go_simp; (try with_reducible rfl))); (try simp only [Act.put, List.setIfInBounds_toArray, List.set_cons_zero, List.set_cons_succ])); (refine wpAnyH_take (i := 18) (oi := ?oi16) (v := ?v16) ?hi16 (by kernel_rfl) (by kernel_rfl) (by kernel_rfl) ?hq16 ?hy16 (by assumption) ?hr16; (case hi16 => ((simp only [List.getElem?_toArray, List.getElem?_cons_zero, List.getElem?_cons_succ]); exact rfl)); (case hq16 => exact fun _ _ _ h => h); (case hy16 => (refine Or.inl ⟨by rfl, ?_⟩; (intro w hSw); (try dsimp only at hSw); go_simp; (try with_reducible rfl))); (try simp only [Act.put, List.setIfInBounds_toArray, List.set_cons_zero, List.set_cons_succ])); (refine wpAnyH_take (i := 19) (oi := ?oi17) (v := ?v17) ?hi17 (by kernel_rfl) (by kernel_rfl) (by kernel_rfl) ?hq17 ?hy17 (by assumption) ?hr17; (case hi17 => ((simp only [List.getElem?_toArray, List.getElem?_cons_zero, List.getElem?_cons_succ]); exact rfl)); (case hq17 => exact fun _ _ _ h => h); (case hy17 => (refine Or.inl ⟨by rfl, ?_⟩; (intro w hSw); (try dsimp only at hSw); go_simp; (try with_reducible rfl))); (try simp only [Act.put, List.setIfInBounds_toArray, List.set_cons_zero, List.set_cons_succ]))
        refine wpAnyH_done (by kernel_rfl) ?_ _
        have hBe := (And.right hHeld)
        clear hHeld
        go_wp2_with fail
        go_meet
        case rel => exact ⟨rfl, (by first | rfl | simp [hlt] | (simp; omega)), hBe⟩
      · have hN1 : N < 0 := by omega
        have hNd : decide (0 ≤ N) = false := by simp only [decide_eq_false_iff_not]; omega
        have hS0 := And.intro (Bag.cell (k := kA) (v := .slice (some ⟨bA, 0, none⟩) lA.length cA) (hB2.drew) (by simp)) (hB2.drew)
        clear hB2 hc2
        refine wp_region_held_drew (S := fun w' => w'.cell? ⟨kA, 0, none⟩ = some (.slice (some ⟨bA, 0, none⟩) lA.length cA) ∧ Bag w [(kA, .slice (some ⟨bA, 0, none⟩) lA.length cA)] [(bA, lA)] w') (by kernel_rfl) hS0 (fun hHeld => ?_)
        clear hS0
        (refine wpAnyH_take (i := 0) (oi := ?oi18) (v := ?v18) ?hi18 (by kernel_rfl) (by kernel_rfl) (by kernel_rfl) ?hq18 ?hy18 (by assumption) ?hr18; (case hi18 => ((simp only [List.getElem?_toArray, List.getElem?_cons_zero]); exact rfl)); (case hq18 => exact fun _ _ _ h => h); (case hy18 => (refine Or.inl ⟨by rfl, ?_⟩; (intro w hSw); (try dsimp only at hSw); go_simp; (try with_reducible rfl))); (try simp only [Act.put, List.setIfInBounds_toArray, List.set_cons_zero, List.set_cons_succ])); (refine wpAnyH_take (i := 1) (oi := ?oi19) (v := ?v19) ?hi19 (by kernel_rfl) (by kernel_rfl) (by kernel_rfl) ?hq19 ?hy19 (by assumption) ?hr19; (case hi19 => ((simp only [List.getElem?_toArray, List.getElem?_cons_zero, List.getElem?_cons_succ]); exact rfl)); (case hq19 => exact fun _ _ _ h => h); (case hy19 => (refine Or.inl ⟨by rfl, ?_⟩; (intro w hSw); (try dsimp only at hSw); go_simp; (try with_reducible rfl))); (try simp only [Act.put, List.setIfInBounds_toArray, List.set_cons_zero, List.set_cons_succ])); (refine wpAnyH_take (i := 2) (oi := ?oi20) (v := ?v20) ?hi20 (by kernel_rfl) (by kernel_rfl) (by kernel_rfl) ?hq20 ?hy20 (by assumption) ?hr20; (case hi20 => ((simp only [List.getElem?_toArray, List.getElem?_cons_zero, List.getElem?_cons_succ]); exact rfl)); (case hq20 => exact fun _ _ _ h => h); (case hy20 => (refine Or.inl ⟨by rfl, ?_⟩; (intro w hSw); (try dsimp only at hSw); go_simp; (try with_reducible rfl))); (try simp only [Act.put, List.setIfInBounds_toArray, List.set_cons_zero, List.set_cons_succ])); (refine wpAnyH_take (i := 3) (oi := ?oi21) (v := ?v21) ?hi21 (by kernel_rfl) (by kernel_rfl) (by kernel_rfl) ?hq21 ?hy21 (by assumption) ?hr21; (case hi21 => ((simp only [List.getElem?_toArray, List.getElem?_cons_zero, List.getElem?_cons_succ]); exact rfl)); (case hq21 => exact fun _ _ _ h => h); (case hy21 => (refine Or.inl ⟨by rfl, ?_⟩; (intro w hSw); (try dsimp only at hSw); go_simp; (try with_reducible rfl))); (try simp only [Act.put, List.setIfInBounds_toArray, List.set_cons_zero, List.set_cons_succ]))
        refine wpAnyH_ready (rs := [4]) (by kernel_rfl) (by simp) ?_; refine AllReadyH.cons rfl (fun K hK => ?_) AllReadyH.nil; go_simp
        (go_at_call 80; refine (sCauchyBound_any bA 0 cA lA xA1 xA2 _ (by omega) (Bag.grp (And.right hHeld) (by simp))).mono ?_; rintro e wv6 ⟨rfl, hbel⟩; rw [hN.out])
        go_wp2_with fail
        refine hK.out _ _ ?ks (fun hHeld => ?_); (case ks => (exact And.intro (Bag.cell (k := kA) (v := .slice (some ⟨bA, 0, none⟩) lA.length cA) (Bag.step (And.right hHeld) hbel) (by simp)) (Bag.step (And.right hHeld) hbel))); clear hK K; (try simp only [Act.put, List.setIfInBounds_toArray, List.set_cons_zero, List.set_cons_succ])
        clear hbel
        (refine wpAnyH_take (i := 5) (oi := ?oi22) (v := ?v22) ?hi22 (by kernel_rfl) (by kernel_rfl) (by kernel_rfl) ?hq22 ?hy22 (by assumption) ?hr22; (case hi22 => ((simp only [List.getElem?_toArray, List.getElem?_cons_zero, List.getElem?_cons_succ]); exact rfl)); (case hq22 => exact fun _ _ _ h => h); (case hy22 => (refine Or.inl ⟨by rfl, ?_⟩; (intro w hSw); (try dsimp only at hSw); go_simp; (try with_reducible rfl))); (try simp only [Act.put, List.setIfInBounds_toArray, List.set_cons_zero, List.set_cons_succ])); (refine wpAnyH_take (i := 6) (oi := ?oi23) (v := ?v23) ?hi23 (by kernel_rfl) (by kernel_rfl) (by kernel_rfl) ?hq23 ?hy23 (by assumption) ?hr23; (case hi23 => ((simp only [List.getElem?_toArray, List.getElem?_cons_zero, List.getElem?_cons_succ]); exact rfl)); (case hq23 => exact fun _ _ _ h => h); (case hy23 => (refine Or.inl ⟨by rfl, ?_⟩; (intro w hSw); (try dsimp only at hSw); go_simp; (try with_reducible rfl))); (try simp only [Act.put, List.setIfInBounds_toArray, List.set_cons_zero, List.set_cons_succ])); (refine wpAnyH_take (i := 7) (oi := ?oi24) (v := ?v24) ?hi24 (by kernel_rfl) (by kernel_rfl) (by kernel_rfl) ?hq24 ?hy24 (by assumption) ?hr24; (case hi24 => ((simp only [List.getElem?_toArray, List.getElem?_cons_zero, List.getElem?_cons_succ]); exact rfl)); (case hq24 => exact fun _ _ _ h => h); (case hy24 => (refine Or.inl ⟨by rfl, ?_⟩; (intro w hSw); (try dsimp only at hSw); go_simp; (try with_reducible rfl))); (try simp only [Act.put, List.setIfInBounds_toArray, List.set_cons_zero, List.set_cons_succ])); (refine wpAnyH_take (i := 8) (oi := ?oi25) (v := ?v25) ?hi25 (by kernel_rfl) (by kernel_rfl) (by kernel_rfl) ?hq25 ?hy25 (by assumption) ?hr25; (case hi25 => ((simp only [List.getElem?_toArray, List.getElem?_cons_zero, List.getElem?_cons_succ]); exact rfl)); (case hq25 => exact fun _ _ _ h => h); (case hy25 => (refine Or.inl ⟨by rfl, ?_⟩; (intro w hSw); (try dsimp only at hSw); go_simp; (try with_reducible rfl))); (try simp only [Act.put, List.setIfInBounds_toArray, List.set_cons_zero, List.set_cons_succ])); (refine wpAnyH_take (i := 9) (oi := ?oi26) (v := ?v26) ?hi26 (by kernel_rfl) (by kernel_rfl) (by kernel_rfl) ?hq26 ?hy26 (by assumption) ?hr26; (case hi26 => ((simp only [List.getElem?_toArray, List.getElem?_cons_zero, List.getElem?_cons_succ]); exact rfl)); (case hq26 => exact fun _ _ _ h => h); (case hy26 => (refine Or.inl ⟨by rfl, ?_⟩; (intro w hSw); (try dsimp only at hSw); go_simp; (try with_reducible rfl))); (try simp only [Act.put, List.setIfInBounds_toArray, List.set_cons_zero, List.set_cons_succ]))
        (refine wpAnyH_take (i := 10) (oi := ?oi27) (v := undef) ?hi27 (by kernel_rfl) (by kernel_rfl) (by kernel_rfl) ?hq27 ?hy27 (by assumption) ?hr27; (case hi27 => ((simp only [List.getElem?_toArray, List.getElem?_cons_zero, List.getElem?_cons_succ]); exact rfl)); (case hq27 => exact fun _ _ _ h => h); (case hy27 => exact Or.inr ⟨by rfl, rfl⟩); (try simp only [Act.put, List.setIfInBounds_toArray, List.set_cons_zero, List.set_cons_succ])); (refine wpAnyH_take (i := 11) (oi := ?oi28) (v := undef) ?hi28 (by kernel_rfl) (by kernel_rfl) (by kernel_rfl) ?hq28 ?hy28 (by assumption) ?hr28; (case hi28 => ((simp only [List.getElem?_toArray, List.getElem?_cons_zero, List.getElem?_cons_succ]); exact rfl)); (case hq28 => exact fun _ _ _ h => h); (case hy28 => exact Or.inr ⟨by rfl, rfl⟩); (try simp only [Act.put, List.setIfInBounds_toArray, List.set_cons_zero, List.set_cons_succ])); (refine wpAnyH_take (i := 12) (oi := ?oi29) (v := undef) ?hi29 (by kernel_rfl) (by kernel_rfl) (by kernel_rfl) ?hq29 ?hy29 (by assumption) ?hr29; (case hi29 => ((simp only [List.getElem?_toArray, List.getElem?_cons_zero, List.getElem?_cons_succ]); exact rfl)); (case hq29 => exact fun _ _ _ h => h); (case hy29 => exact Or.inr ⟨by rfl, rfl⟩); (try simp only [Act.put, List.setIfInBounds_toArray, List.set_cons_zero, List.set_cons_succ])); (refine wpAnyH_take (i := 13) (oi := ?oi30) (v := undef) ?hi30 (by kernel_rfl) (by kernel_rfl) (by kernel_rfl) ?hq30 ?hy30 (by assumption) ?hr30; (case hi30 => ((simp only [List.getElem?_toArray, List.getElem?_cons_zero, List.getElem?_cons_succ]); exact rfl)); (case hq30 => exact fun _ _ _ h => h); (case hy30 => exact Or.inr ⟨by rfl, rfl⟩); (try simp only [Act.put, List.setIfInBounds_toArray, List.set_cons_zero, List.set_cons_succ])); (refine wpAnyH_take (i := 14) (oi := ?oi31) (v := undef) ?hi31 (by kernel_rfl) (by kernel_rfl) (by kernel_rfl) ?hq31 ?hy31 (by assumption) ?hr31; (case hi31 => ((simp only [List.getElem?_toArray, List.getElem?_cons_zero, List.getElem?_cons_succ]); exact rfl)); (case hq31 => exact fun _ _ _ h => h); (case hy31 => exact Or.inr ⟨by rfl, rfl⟩); (try simp only [Act.put, List.setIfInBounds_toArray, List.set_cons_zero, List.set_cons_succ])); (refine wpAnyH_take (i := 15) (oi := ?oi32) (v := undef) ?hi32 (by kernel_rfl) (by kernel_rfl) (by kernel_rfl) ?hq32 ?hy32 (by assumption) ?hr32; (case hi32 => ((simp only [List.getElem?_toArray, List.getElem?_cons_zero, List.getElem?_cons_succ]); exact rfl)); (case hq32 => exact fun _ _ _ h => h); (case hy32 => exact Or.inr ⟨by rfl, rfl⟩); (try simp only [Act.put, List.setIfInBounds_toArray, List.set_cons_zero, List.set_cons_succ])); (refine wpAnyH_take (i := 16) (oi := ?oi33) (v := undef) ?hi33 (by kernel_rfl) (by kernel_rfl) (by kernel_rfl) ?hq33 ?hy33 (by assumption) ?hr33; (case hi33 => ((simp only [List.getElem?_toArray, List.getElem?_cons_zero, List.getElem?_cons_succ]); exact rfl)); (case hq33 => exact fun _ _ _ h => h); (case hy33 => exact Or.inr ⟨by rfl, rfl⟩); (try simp only [Act.put, List.setIfInBounds_toArray, List.set_cons_zero, List.set_cons_succ])); (refine wpAnyH_take (i := 17) (oi := ?oi34) (v := undef) ?hi34 (by kernel_rfl) (by kernel_rfl) (by kernel_rfl) ?hq34 ?hy34 (by assumption) ?hr34; (case hi34 => ((simp only [List.getElem?_toArray, List.getElem?_cons_zero, List.getElem?_cons_succ]); exact rfl)); (case hq34 => exact fun _ _ _ h => h); (case hy34 => exact Or.inr ⟨by rfl, rfl⟩); (try simp only [Act.put, List.setIfInBounds_toArray, List.set_cons_zero, List.set_cons_succ]))
        (refine wpAnyH_take (i := 18) (oi := ?oi35) (v := ?v35) ?hi35 (by kernel_rfl) (by kernel_rfl) (by kernel_rfl) ?hq35 ?hy35 (by assumption) ?hr35; (case hi35 => ((simp only [List.getElem?_toArray, List.getElem?_cons_zero, List.getElem?_cons_succ]); exact rfl)); (case hq35 => exact fun _ _ _ h => h); (case hy35 => (refine Or.inl ⟨by rfl, ?_⟩; (intro w hSw); (try dsimp only at hSw); go_simp; (try with_reducible rfl))); (try simp only [Act.put, List.setIfInBounds_toArray, List.set_cons_zero, List.set_cons_succ])); (refine wpAnyH_take (i := 19) (oi := ?oi36) (v := ?v36) ?hi36 (by kernel_rfl) (by kernel_rfl) (by kernel_rfl) ?hq36 ?hy36 (by assumption) ?hr36; (case hi36 => ((simp only [List.getElem?_toArray, List.getElem?_cons_zero, List.getElem?_cons_succ]); exact rfl)); (case hq36 => exact fun _ _ _ h => h); (case hy36 => (refine Or.inl ⟨by rfl, ?_⟩; (intro w hSw); (try dsimp only at hSw); go_simp; (try with_reducible rfl))); (try simp only [Act.put, List.setIfInBounds_toArray, List.set_cons_zero, List.set_cons_succ]))
        refine wpAnyH_done (by kernel_rfl) ?_ _
        have hBe := (And.right hHeld)
        clear hHeld
        go_wp2_with fail
        go_meet
        case rel => exact ⟨rfl, (by first | rfl | simp [hlt] | (simp; omega)), hBe⟩
    case rest =>
      obtain ⟨rfl, rfl, hBr⟩ := hcut
      clear hlaw hN hB2 hc2
      have hc3 := hBr.cell (k := kA) (v := .slice (some ⟨bA, 0, none⟩) lA.length cA) (by simp)
      go_wp2_with fail
      refine (DrawChowlaHolds_any a n cp wc (by omega) (hBr.code hb)).mono ?_; rintro e wv7 ⟨bB, cB, lB, xB1, xB2, rfl, -, hlB, hgB, hxB1, hxB2, hbel⟩
      have hBB := ((hBr.step hbel).addG hgB).box (.slice (some ⟨bB, 0, none⟩) lB.length cB) 26
      clear hbel hgB hBr
      generalize hk : wv7.heap.size = kB at *
      clear hc3
      have hc4 := hBB.cell (k := kB) (v := .slice (some ⟨bB, 0, none⟩) lB.length cB) (by simp)
      have hc5 := hBB.cell (k := kA) (v := .slice (some ⟨bA, 0, none⟩) lA.length cA) (by simp)
      go_wp2_with fail
      generalize wv7.alloc (.cells #[.slice (some ⟨bB, 0, none⟩) lB.length cB] 26) = wB at *
      clear hk
      obtain ⟨P, hP⟩ : ∃ P, Hid (chowF lB xB1 xB2 = P) := ⟨_, rfl⟩
      refine (chowlaHolds_any bB 0 cB lB xB1 xB2 wB (by omega) (hBB.grp (by simp))).mono ?_; rintro e wv8 ⟨rfl, hbel⟩; rw [hP.out]
      have hB8 := hBB.step hbel
      clear hbel hBB
      clear hc4 hc5
      have hc6 := hB8.cell (k := kB) (v := .slice (some ⟨bB, 0, none⟩) lB.length cB) (by simp)
      have hc7 := hB8.cell (k := kA) (v := .slice (some ⟨bA, 0, none⟩) lA.length cA) (by simp)
      go_wp2_with fail
      refine (sChowlaHolds_any bB 0 cB lB xB1 xB2 wv8 (by omega) (hB8.grp (by simp))).mono ?_; rintro e wv9 ⟨rfl, hbel⟩; rw [hP.out]
      have hB9 := hB8.step hbel
      clear hbel hB8
      clear hc6 hc7
      have hc8 := hB9.cell (k := kB) (v := .slice (some ⟨bB, 0, none⟩) lB.length cB) (by simp)
      have hc9 := hB9.cell (k := kA) (v := .slice (some ⟨bA, 0, none⟩) lA.length cA) (by simp)
      have hPP : (P != P) = false := by cases P <;> rfl
      go_upto_if 77 with fail
      clear hPP
      go_cut [11] from 29 (fun _ wr => Bag w [(kB, .slice (some ⟨bB, 0, none⟩) lB.length cB), (kA, .slice (some ⟨bA, 0, none⟩) lA.length cA)] [(bB, lB), (bA, lA)] wr)
      case first => as_aux_lemma =>
        cases P
        · go_wp2_with fail
          go_meet
          case rel => exact hB9
        · obtain ⟨k, hk0, hk24, A, B, S, hA0, hB0, hS0, hA1, hB1, hA24, hB24, hor0⟩ := chowla_law hP.out
          have hkk := hid hk0
          have hcA := hid hA0
          have hcB := hid hB0
          have hcS := hid hS0
          have hor := hid hor0
          clear hk0 hA0 hB0 hS0 hor0 hP
          obtain ⟨K1, hK1⟩ : ∃ K1 : Nat, A + B = K1 + 1 := ⟨A + B - 1, by omega⟩
          go_wp2_with fail
          have hS0 := And.intro (Bag.cell (k := kB) (v := .slice (some ⟨bB, 0, none⟩) lB.length cB) (hB9.drew) (by simp)) (hB9.drew)
          clear hB9 hc8 hc9
          refine wp_region_held_drew (S := fun w' => w'.cell? ⟨kB, 0, none⟩ = some (.slice (some ⟨bB, 0, none⟩) lB.length cB) ∧ Bag w [(kB, .slice (some ⟨bB, 0, none⟩) lB.length cB), (kA, .slice (some ⟨bA, 0, none⟩) lA.length cA)] [(bB, lB), (bA, lA)] w') (by kernel_rfl) hS0 (fun hHeld => ?_)
          clear hS0
          (refine wpAnyH_take (i := 0) (oi := ?oi37) (v := ?v37) ?hi37 (by kernel_rfl) (by kernel_rfl) (by kernel_rfl) ?hq37 ?hy37 (by assumption) ?hr37; (case hi37 => ((simp only [List.getElem?_toArray, List.getElem?_cons_zero]); exact rfl)); (case hq37 => exact fun _ _ _ h => h); (case hy37 => (refine Or.inl ⟨by rfl, ?_⟩; (intro w hSw); (try dsimp only at hSw); go_simp; (try with_reducible rfl))); (try simp only [Act.put, List.setIfInBounds_toArray, List.set_cons_zero, List.set_cons_succ])); (refine wpAnyH_take (i := 1) (oi := ?oi38) (v := ?v38) ?hi38 (by kernel_rfl) (by kernel_rfl) (by kernel_rfl) ?hq38 ?hy38 (by assumption) ?hr38; (case hi38 => ((simp only [List.getElem?_toArray, List.getElem?_cons_zero, List.getElem?_cons_succ]); exact rfl)); (case hq38 => exact fun _ _ _ h => h); (case hy38 => (refine Or.inl ⟨by rfl, ?_⟩; (intro w hSw); (try dsimp only at hSw); go_simp; (try with_reducible rfl))); (try simp only [Act.put, List.setIfInBounds_toArray, List.set_cons_zero, List.set_cons_succ]))
          (refine wpAnyH_take (i := 3) (oi := ?oi39) (v := ?v39) ?hi39 (by kernel_rfl) (by kernel_rfl) (by kernel_rfl) ?hq39 ?hy39 (by assumption) ?hr39; (case hi39 => ((simp only [List.getElem?_toArray, List.getElem?_cons_zero, List.getElem?_cons_succ]); exact rfl)); (case hq39 => exact fun _ _ _ h => h); (case hy39 => (refine Or.inl ⟨by rfl, ?_⟩; (intro w hSw); (try dsimp only at hSw); go_simp; (try with_reducible rfl))); (try simp only [Act.put, List.setIfInBounds_toArray, List.set_cons_zero, List.set_cons_succ])); (refine wpAnyH_take (i := 4) (oi := ?oi40) (v := ?v40) ?hi40 (by kernel_rfl) (by kernel_rfl) (by kernel_rfl) ?hq40 ?hy40 (by assumption) ?hr40; (case hi40 => ((simp only [List.getElem?_toArray, List.getElem?_cons_zero, List.getElem?_cons_succ]); exact rfl)); (case hq40 => exact fun _ _ _ h => h); (case hy40 => (refine Or.inl ⟨by rfl, ?_⟩; (intro w hSw); (try dsimp only at hSw); go_simp; (try with_reducible rfl))); (try simp only [Act.put, List.setIfInBounds_toArray, List.set_cons_zero, List.set_cons_succ]))
          refine wpAnyH_ready (rs := [2]) (by kernel_rfl) (by simp) ?_; refine AllReadyH.cons rfl (fun K hK => ?_) AllReadyH.nil; go_simp
          (go_at_call 40; refine (sCountSet_any bB 0 cB lB xB1 _ (by omega) (Bag.grp (And.right hHeld) (by simp))).mono ?_; rintro e wv10 ⟨rfl, hbel⟩; rw [hcA.out])
          go_wp2_with fail
          refine hK.out _ _ ?ks (fun hHeld => ?_); (case ks => (exact And.intro (Bag.cell (k := kB) (v := .slice (some ⟨bB, 0, none⟩) lB.length cB) (Bag.step (And.right hHeld) hbel) (by simp)) (Bag.step (And.right hHeld) hbel))); clear hK K; (try simp only [Act.put, List.setIfInBounds_toArray, List.set_cons_zero, List.set_cons_succ])
          clear hbel
          refine wpAnyH_ready (rs := [5]) (by kernel_rfl) (by simp) ?_; refine AllReadyH.cons rfl (fun K hK => ?_) AllReadyH.nil; go_simp
          (go_at_call 40; refine (sCountSet_any bB 0 cB lB xB2 _ (by omega) (Bag.grp (And.right hHeld) (by simp))).mono ?_; rintro e wv11 ⟨rfl, hbel⟩; rw [hcB.out])
          go_wp2_with fail
          refine hK.out _ _ ?ks (fun hHeld => ?_); (case ks => (exact And.intro (Bag.cell (k := kB) (v := .slice (some ⟨bB, 0, none⟩) lB.length cB) (Bag.step (And.right hHeld) hbel) (by simp)) (Bag.step (And.right hHeld) hbel))); clear hK K; (try simp only [Act.put, List.setIfInBounds_toArray, List.set_cons_zero, List.set_cons_succ])
          clear hbel
          have hw1 : IntKind.i64.wrap ((A : Int) + (B : Int)) = ((K1 + 1 : Nat) : Int) := by rw [IntKind.wrap_i64]; omega
          (refine wpAnyH_take (i := 6) (oi := ?oi41) (v := ?v41) ?hi41 (by kernel_rfl) (by kernel_rfl) (by kernel_rfl) ?hq41 ?hy41 (by assumption) ?hr41; (case hi41 => ((simp only [List.getElem?_toArray, List.getElem?_cons_zero, List.getElem?_cons_succ]); exact rfl)); (case hq41 => exact fun _ _ _ h => h); (case hy41 => (refine Or.inl ⟨by rfl, ?_⟩; (intro w hSw); (try dsimp only at hSw); go_simp; (try with_reducible rfl))); (try simp only [Act.put, List.setIfInBounds_toArray, List.set_cons_zero, List.set_cons_succ]))
          clear hw1
          have hw2 : IntKind.i64.wrap (((K1 + 1 : Nat) : Int) - 1) = (K1 : Int) := by rw [IntKind.wrap_i64]; omega
          have hw3 : IntKind.i64.wrap (K1 : Int) = (K1 : Int) := by rw [IntKind.wrap_i64]; omega
          have hw4 : wrap64 (K1 : Int) = (K1 : Int) := by unfold wrap64; omega
          (refine wpAnyH_take (i := 7) (oi := ?oi42) (v := ?v42) ?hi42 (by kernel_rfl) (by kernel_rfl) (by kernel_rfl) ?hq42 ?hy42 (by assumption) ?hr42; (case hi42 => ((simp only [List.getElem?_toArray, List.getElem?_cons_zero, List.getElem?_cons_succ]); exact rfl)); (case hq42 => exact fun _ _ _ h => h); (case hy42 => (refine Or.inl ⟨by rfl, ?_⟩; (intro w hSw); (try dsimp only at hSw); go_simp; (try with_reducible rfl))); (try simp only [Act.put, List.setIfInBounds_toArray, List.set_cons_zero, List.set_cons_succ]))
          (refine wpAnyH_take (i := 8) (oi := ?oi43) (v := ?v43) ?hi43 (by kernel_rfl) (by kernel_rfl) (by kernel_rfl) ?hq43 ?hy43 (by assumption) ?hr43; (case hi43 => ((simp only [List.getElem?_toArray, List.getElem?_cons_zero, List.getElem?_cons_succ]); exact rfl)); (case hq43 => exact fun _ _ _ h => h); (case hy43 => (refine Or.inl ⟨by rfl, ?_⟩; (intro w hSw); (try dsimp only at hSw); go_simp; (try with_reducible rfl))); (try simp only [Act.put, List.setIfInBounds_toArray, List.set_cons_zero, List.set_cons_succ]))
          clear hw2 hw3 hw4
          refine wpAnyH_done (by kernel_rfl) ?_ _
          have hBf := (And.right hHeld)
          clear hHeld
          have hc10 := hBf.cell (k := kB) (v := .slice (some ⟨bB, 0, none⟩) lB.length cB) (by simp)
          have hc11 := hBf.cell (k := kA) (v := .slice (some ⟨bA, 0, none⟩) lA.length cA) (by simp)
          go_wp2_with fail
          refine (sOrderOf_any bB 0 cB lB  wv11 (by omega) (hBf.grp (by simp))).mono ?_; rintro e wv12 ⟨rfl, hbel⟩; rw [hkk.out]
          have hB12 := hBf.step hbel
          clear hbel hBf
          clear hc10 hc11
          have hc12 := hB12.cell (k := kB) (v := .slice (some ⟨bB, 0, none⟩) lB.length cB) (by simp)
          have hc13 := hB12.cell (k := kA) (v := .slice (some ⟨bA, 0, none⟩) lA.length cA) (by simp)
          by_cases hgt : k < K1
          · have hgI : (k : Int) < (K1 : Int) := by omega
            have hns : ¬ (S : Int) < (k : Int) := by have := hor.out; omega
            clear hor hK1
            go_wp2_with fail
            refine (sOrderOf_any bB 0 cB lB  wv12 (by omega) (hB12.grp (by simp))).mono ?_; rintro e wv13 ⟨rfl, hbel⟩; rw [hkk.out]
            have hB13 := hB12.step hbel
            clear hbel hB12
            clear hc12 hc13
            have hc14 := hB13.cell (k := kB) (v := .slice (some ⟨bB, 0, none⟩) lB.length cB) (by simp)
            have hc15 := hB13.cell (k := kA) (v := .slice (some ⟨bA, 0, none⟩) lA.length cA) (by simp)
            go_wp2_with fail
            have hS0 := And.intro (Bag.cell (k := kB) (v := .slice (some ⟨bB, 0, none⟩) lB.length cB) (hB13.drew) (by simp)) (hB13.drew)
            clear hB13 hc14 hc15
            refine wp_region_held_drew (S := fun w' => w'.cell? ⟨kB, 0, none⟩ = some (.slice (some ⟨bB, 0, none⟩) lB.length cB) ∧ Bag w [(kB, .slice (some ⟨bB, 0, none⟩) lB.length cB), (kA, .slice (some ⟨bA, 0, none⟩) lA.length cA)] [(bB, lB), (bA, lA)] w') (by kernel_rfl) hS0 (fun hHeld => ?_)
            clear hS0
            (refine wpAnyH_take (i := 0) (oi := ?oi44) (v := ?v44) ?hi44 (by kernel_rfl) (by kernel_rfl) (by kernel_rfl) ?hq44 ?hy44 (by assumption) ?hr44; (case hi44 => ((simp only [List.getElem?_toArray, List.getElem?_cons_zero]); exact rfl)); (case hq44 => exact fun _ _ _ h => h); (case hy44 => (refine Or.inl ⟨by rfl, ?_⟩; (intro w hSw); (try dsimp only at hSw); go_simp; (try with_reducible rfl))); (try simp only [Act.put, List.setIfInBounds_toArray, List.set_cons_zero, List.set_cons_succ])); (refine wpAnyH_take (i := 1) (oi := ?oi45) (v := ?v45) ?hi45 (by kernel_rfl) (by kernel_rfl) (by kernel_rfl) ?hq45 ?hy45 (by assumption) ?hr45; (case hi45 => ((simp only [List.getElem?_toArray, List.getElem?_cons_zero, List.getElem?_cons_succ]); exact rfl)); (case hq45 => exact fun _ _ _ h => h); (case hy45 => (refine Or.inl ⟨by rfl, ?_⟩; (intro w hSw); (try dsimp only at hSw); go_simp; (try with_reducible rfl))); (try simp only [Act.put, List.setIfInBounds_toArray, List.set_cons_zero, List.set_cons_succ])); (refine wpAnyH_take (i := 2) (oi := ?oi46) (v := ?v46) ?hi46 (by kernel_rfl) (by kernel_rfl) (by kernel_rfl) ?hq46 ?hy46 (by assumption) ?hr46; (case hi46 => ((simp only [List.getElem?_toArray, List.getElem?_cons_zero, List.getElem?_cons_succ]); exact rfl)); (case hq46 => exact fun _ _ _ h => h); (case hy46 => (refine Or.inl ⟨by rfl, ?_⟩; (intro w hSw); (try dsimp only at hSw); go_simp; (try with_reducible rfl))); (try simp only [Act.put, List.setIfInBounds_toArray, List.set_cons_zero, List.set_cons_succ])); (refine wpAnyH_take (i := 3) (oi := ?oi47) (v := ?v47) ?hi47 (by kernel_rfl) (by kernel_rfl) (by kernel_rfl) ?hq47 ?hy47 (by assumption) ?hr47; (case hi47 => ((simp only [List.getElem?_toArray, List.getElem?_cons_zero, List.getElem?_cons_succ]); exact rfl)); (case hq47 => exact fun _ _ _ h => h); (case hy47 => (refine Or.inl ⟨by rfl, ?_⟩; (intro w hSw); (try dsimp only at hSw); go_simp; (try with_reducible rfl))); (try simp only [Act.put, List.setIfInBounds_toArray, List.set_cons_zero, List.set_cons_succ]))
            (refine wpAnyH_take (i := 6) (oi := ?oi48) (v := ?v48) ?hi48 (by kernel_rfl) (by kernel_rfl) (by kernel_rfl) ?hq48 ?hy48 (by assumption) ?hr48; (case hi48 => ((simp only [List.getElem?_toArray, List.getElem?_cons_zero, List.getElem?_cons_succ]); exact rfl)); (case hq48 => exact fun _ _ _ h => h); (case hy48 => (refine Or.inl ⟨by rfl, ?_⟩; (intro w hSw); (try dsimp only at hSw); go_simp; (try with_reducible rfl))); (try simp only [Act.put, List.setIfInBounds_toArray, List.set_cons_zero, List.set_cons_succ]))
            refine wpAnyH_ready (rs := [4]) (by kernel_rfl) (by simp) ?_; refine AllReadyH.cons rfl (fun K hK => ?_) AllReadyH.nil; go_simp
            (go_at_call 70; refine (sSumOfSets_any bB 0 cB lB xB1 xB2 _ (by omega) (Bag.grp (And.right hHeld) (by simp))).mono ?_; rintro e wv14 ⟨rfl, hbel⟩)
            go_wp2_with fail
            refine hK.out _ _ ?ks (fun hHeld => ?_); (case ks => (exact And.intro (Bag.cell (k := kB) (v := .slice (some ⟨bB, 0, none⟩) lB.length cB) (Bag.step (And.right hHeld) hbel) (by simp)) (Bag.step (And.right hHeld) hbel))); clear hK K; (try simp only [Act.put, List.setIfInBounds_toArray, List.set_cons_zero, List.set_cons_succ])
            clear hbel
            refine wpAnyH_ready (rs := [5]) (by kernel_rfl) (by simp) ?_; refine AllReadyH.cons rfl (fun K hK => ?_) AllReadyH.nil; go_simp
            (go_at_call 40; refine (sCountSet_any bB 0 cB lB (sumF lB xB1 xB2) _ (by omega) (Bag.grp (And.right hHeld) (by simp))).mono ?_; rintro e wv15 ⟨rfl, hbel⟩; rw [hcS.out])
            go_wp2_with fail
            refine hK.out _ _ ?ks (fun hHeld => ?_); (case ks => (exact And.intro (Bag.cell (k := kB) (v := .slice (some ⟨bB, 0, none⟩) lB.length cB) (Bag.step (And.right hHeld) hbel) (by simp)) (Bag.step (And.right hHeld) hbel))); clear hK K; (try simp only [Act.put, List.setIfInBounds_toArray, List.set_cons_zero, List.set_cons_succ])
            clear hbel
            (refine wpAnyH_take (i := 7) (oi := ?oi49) (v := ?v49) ?hi49 (by kernel_rfl) (by kernel_rfl) (by kernel_rfl) ?hq49 ?hy49 (by assumption) ?hr49; (case hi49 => ((simp only [List.getElem?_toArray, List.getElem?_cons_zero, List.getElem?_cons_succ]); exact rfl)); (case hq49 => exact fun _ _ _ h => h); (case hy49 => (refine Or.inl ⟨by rfl, ?_⟩; (intro w hSw); (try dsimp only at hSw); go_simp; (try with_reducible rfl))); (try simp only [Act.put, List.setIfInBounds_toArray, List.set_cons_zero, List.set_cons_succ]))
            refine wpAnyH_done (by kernel_rfl) ?_ _
            have hBe := (And.right hHeld)
            clear hHeld
            go_wp2_with fail
            go_meet
            case rel => exact hBe
          · have hgI : ¬ (k : Int) < (K1 : Int) := by omega
            have hns : ¬ (S : Int) < (K1 : Int) := by have := hor.out; omega
            clear hor hK1
            go_wp2_with fail
            have hS0 := And.intro (Bag.cell (k := kB) (v := .slice (some ⟨bB, 0, none⟩) lB.length cB) (hB12.drew) (by simp)) (hB12.drew)
            clear hB12 hc12 hc13
            refine wp_region_held_drew (S := fun w' => w'.cell? ⟨kB, 0, none⟩ = some (.slice (some ⟨bB, 0, none⟩) lB.length cB) ∧ Bag w [(kB, .slice (some ⟨bB, 0, none⟩) lB.length cB), (kA, .slice (some ⟨bA, 0, none⟩) lA.length cA)] [(bB, lB), (bA, lA)] w') (by kernel_rfl) hS0 (fun hHeld => ?_)
            clear hS0
            (refine wpAnyH_take (i := 0) (oi := ?oi50) (v := ?v50) ?hi50 (by kernel_rfl) (by kernel_rfl) (by kernel_rfl) ?hq50 ?hy50 (by assumption) ?hr50; (case hi50 => ((simp only [List.getElem?_toArray, List.getElem?_cons_zero]); exact rfl)); (case hq50 => exact fun _ _ _ h => h); (case hy50 => (refine Or.inl ⟨by rfl, ?_⟩; (intro w hSw); (try dsimp only at hSw); go_simp; (try with_reducible rfl))); (try simp only [Act.put, List.setIfInBounds_toArray, List.set_cons_zero, List.set_cons_succ])); (refine wpAnyH_take (i := 1) (oi := ?oi51) (v := ?v51) ?hi51 (by kernel_rfl) (by kernel_rfl) (by kernel_rfl) ?hq51 ?hy51 (by assumption) ?hr51; (case hi51 => ((simp only [List.getElem?_toArray, List.getElem?_cons_zero, List.getElem?_cons_succ]); exact rfl)); (case hq51 => exact fun _ _ _ h => h); (case hy51 => (refine Or.inl ⟨by rfl, ?_⟩; (intro w hSw); (try dsimp only at hSw); go_simp; (try with_reducible rfl))); (try simp only [Act.put, List.setIfInBounds_toArray, List.set_cons_zero, List.set_cons_succ])); (refine wpAnyH_take (i := 2) (oi := ?oi52) (v := ?v52) ?hi52 (by kernel_rfl) (by kernel_rfl) (by kernel_rfl) ?hq52 ?hy52 (by assumption) ?hr52; (case hi52 => ((simp only [List.getElem?_toArray, List.getElem?_cons_zero, List.getElem?_cons_succ]); exact rfl)); (case hq52 => exact fun _ _ _ h => h); (case hy52 => (refine Or.inl ⟨by rfl, ?_⟩; (intro w hSw); (try dsimp only at hSw); go_simp; (try with_reducible rfl))); (try simp only [Act.put, List.setIfInBounds_toArray, List.set_cons_zero, List.set_cons_succ])); (refine wpAnyH_take (i := 3) (oi := ?oi53) (v := ?v53) ?hi53 (by kernel_rfl) (by kernel_rfl) (by kernel_rfl) ?hq53 ?hy53 (by assumption) ?hr53; (case hi53 => ((simp only [List.getElem?_toArray, List.getElem?_cons_zero, List.getElem?_cons_succ]); exact rfl)); (case hq53 => exact fun _ _ _ h => h); (case hy53 => (refine Or.inl ⟨by rfl, ?_⟩; (intro w hSw); (try dsimp only at hSw); go_simp; (try with_reducible rfl))); (try simp only [Act.put, List.setIfInBounds_toArray, List.set_cons_zero, List.set_cons_succ]))
            (refine wpAnyH_take (i := 6) (oi := ?oi54) (v := ?v54) ?hi54 (by kernel_rfl) (by kernel_rfl) (by kernel_rfl) ?hq54 ?hy54 (by assumption) ?hr54; (case hi54 => ((simp only [List.getElem?_toArray, List.getElem?_cons_zero, List.getElem?_cons_succ]); exact rfl)); (case hq54 => exact fun _ _ _ h => h); (case hy54 => (refine Or.inl ⟨by rfl, ?_⟩; (intro w hSw); (try dsimp only at hSw); go_simp; (try with_reducible rfl))); (try simp only [Act.put, List.setIfInBounds_toArray, List.set_cons_zero, List.set_cons_succ]))
            refine wpAnyH_ready (rs := [4]) (by kernel_rfl) (by simp) ?_; refine AllReadyH.cons rfl (fun K hK => ?_) AllReadyH.nil; go_simp
            (go_at_call 70; refine (sSumOfSets_any bB 0 cB lB xB1 xB2 _ (by omega) (Bag.grp (And.right hHeld) (by simp))).mono ?_; rintro e wv16 ⟨rfl, hbel⟩)
            go_wp2_with fail
            refine hK.out _ _ ?ks (fun hHeld => ?_); (case ks => (exact And.intro (Bag.cell (k := kB) (v := .slice (some ⟨bB, 0, none⟩) lB.length cB) (Bag.step (And.right hHeld) hbel) (by simp)) (Bag.step (And.right hHeld) hbel))); clear hK K; (try simp only [Act.put, List.setIfInBounds_toArray, List.set_cons_zero, List.set_cons_succ])
            clear hbel
            refine wpAnyH_ready (rs := [5]) (by kernel_rfl) (by simp) ?_; refine AllReadyH.cons rfl (fun K hK => ?_) AllReadyH.nil; go_simp
            (go_at_call 40; refine (sCountSet_any bB 0 cB lB (sumF lB xB1 xB2) _ (by omega) (Bag.grp (And.right hHeld) (by simp))).mono ?_; rintro e wv17 ⟨rfl, hbel⟩; rw [hcS.out])
            go_wp2_with fail
            refine hK.out _ _ ?ks (fun hHeld => ?_); (case ks => (exact And.intro (Bag.cell (k := kB) (v := .slice (some ⟨bB, 0, none⟩) lB.length cB) (Bag.step (And.right hHeld) hbel) (by simp)) (Bag.step (And.right hHeld) hbel))); clear hK K; (try simp only [Act.put, List.setIfInBounds_toArray, List.set_cons_zero, List.set_cons_succ])
            clear hbel
            (refine wpAnyH_take (i := 7) (oi := ?oi55) (v := ?v55) ?hi55 (by kernel_rfl) (by kernel_rfl) (by kernel_rfl) ?hq55 ?hy55 (by assumption) ?hr55; (case hi55 => ((simp only [List.getElem?_toArray, List.getElem?_cons_zero, List.getElem?_cons_succ]); exact rfl)); (case hq55 => exact fun _ _ _ h => h); (case hy55 => (refine Or.inl ⟨by rfl, ?_⟩; (intro w hSw); (try dsimp only at hSw); go_simp; (try with_reducible rfl))); (try simp only [Act.put, List.setIfInBounds_toArray, List.set_cons_zero, List.set_cons_succ]))
            refine wpAnyH_done (by kernel_rfl) ?_ _
            have hBe := (And.right hHeld)
            clear hHeld
            go_wp2_with fail
            go_meet
            case rel => exact hBe
      case rest =>
        clear hP hB9 hc8 hc9
        have hc16 := hcut.cell (k := kB) (v := .slice (some ⟨bB, 0, none⟩) lB.length cB) (by simp)
        have hc17 := hcut.cell (k := kA) (v := .slice (some ⟨bA, 0, none⟩) lA.length cA) (by simp)
        go_wp2_with fail
        refine (DrawSumDefect_any a n cp wc (by omega) (hcut.code hb)).mono ?_; rintro e wv18 ⟨bC, cC, lC, xC1, xC2, rfl, -, hlC, hgC, hxC1, hxC2, hbel⟩
        have hBC := ((hcut.step hbel).addG hgC).box (.slice (some ⟨bC, 0, none⟩) lC.length cC) 26
        clear hbel hgC hcut
        generalize hk : wv18.heap.size = kC at *
        clear hc16 hc17
        have hc18 := hBC.cell (k := kC) (v := .slice (some ⟨bC, 0, none⟩) lC.length cC) (by simp)
        have hc19 := hBC.cell (k := kB) (v := .slice (some ⟨bB, 0, none⟩) lB.length cB) (by simp)
        have hc20 := hBC.cell (k := kA) (v := .slice (some ⟨bA, 0, none⟩) lA.length cA) (by simp)
        go_wp2_with fail
        generalize wv18.alloc (.cells #[.slice (some ⟨bC, 0, none⟩) lC.length cC] 26) = wC at *
        clear hk
        refine (DrawIsKneserTight_any a n cp wC (by omega) (hBC.code hb)).mono ?_; rintro e wv19 ⟨bD, cD, lD, xD1, xD2, rfl, -, hlD, hgD, hxD1, hxD2, hbel⟩
        have hBD := ((hBC.step hbel).addG hgD).box (.slice (some ⟨bD, 0, none⟩) lD.length cD) 26
        clear hbel hgD hBC
        generalize hk : wv19.heap.size = kD at *
        clear hc18 hc19 hc20
        have hc21 := hBD.cell (k := kD) (v := .slice (some ⟨bD, 0, none⟩) lD.length cD) (by simp)
        have hc22 := hBD.cell (k := kC) (v := .slice (some ⟨bC, 0, none⟩) lC.length cC) (by simp)
        have hc23 := hBD.cell (k := kB) (v := .slice (some ⟨bB, 0, none⟩) lB.length cB) (by simp)
        have hc24 := hBD.cell (k := kA) (v := .slice (some ⟨bA, 0, none⟩) lA.length cA) (by simp)
        go_wp2_with fail
        generalize wv19.alloc (.cells #[.slice (some ⟨bD, 0, none⟩) lD.length cD] 26) = wD at *
        clear hk
        refine (DrawKneserPair_any a n cp wD (by omega) (hBD.code hb)).mono ?_; rintro e wv20 ⟨bE, cE, lE, xE1, xE2, rfl, -, hlE, hgE, hxE1, hxE2, hbel⟩
        have hBE := ((hBD.step hbel).addG hgE).box (.slice (some ⟨bE, 0, none⟩) lE.length cE) 26
        clear hbel hgE hBD
        generalize hk : wv20.heap.size = kE at *
        clear hc21 hc22 hc23 hc24
        have hc25 := hBE.cell (k := kE) (v := .slice (some ⟨bE, 0, none⟩) lE.length cE) (by simp)
        have hc26 := hBE.cell (k := kD) (v := .slice (some ⟨bD, 0, none⟩) lD.length cD) (by simp)
        have hc27 := hBE.cell (k := kC) (v := .slice (some ⟨bC, 0, none⟩) lC.length cC) (by simp)
        have hc28 := hBE.cell (k := kB) (v := .slice (some ⟨bB, 0, none⟩) lB.length cB) (by simp)
        have hc29 := hBE.cell (k := kA) (v := .slice (some ⟨bA, 0, none⟩) lA.length cA) (by simp)
        go_wp2_with fail
        generalize wv20.alloc (.cells #[.slice (some ⟨bE, 0, none⟩) lE.length cE] 26) = wE at *
        clear hk
        refine (kneserPair_any bE 0 cE lE xE1 xE2 wE (by omega) (hBE.grp (by simp))).mono ?_; rintro e wv21 ⟨rfl, hbel⟩
        have hB21 := hBE.step hbel
        clear hbel hBE
        clear hc25 hc26 hc27 hc28 hc29
        have hc30 := hB21.cell (k := kE) (v := .slice (some ⟨bE, 0, none⟩) lE.length cE) (by simp)
        have hc31 := hB21.cell (k := kD) (v := .slice (some ⟨bD, 0, none⟩) lD.length cD) (by simp)
        have hc32 := hB21.cell (k := kC) (v := .slice (some ⟨bC, 0, none⟩) lC.length cC) (by simp)
        have hc33 := hB21.cell (k := kB) (v := .slice (some ⟨bB, 0, none⟩) lB.length cB) (by simp)
        have hc34 := hB21.cell (k := kA) (v := .slice (some ⟨bA, 0, none⟩) lA.length cA) (by simp)
        go_wp2_with fail
        refine (sKneserPair_any bE 0 cE lE xE1 xE2 wv21 (by omega) (hB21.grp (by simp))).mono ?_; rintro e wv22 ⟨rfl, hbel⟩
        have hB22 := hB21.step hbel
        clear hbel hB21
        clear hc30 hc31 hc32 hc33 hc34
        have hc35 := hB22.cell (k := kE) (v := .slice (some ⟨bE, 0, none⟩) lE.length cE) (by simp)
        have hc36 := hB22.cell (k := kD) (v := .slice (some ⟨bD, 0, none⟩) lD.length cD) (by simp)
        have hc37 := hB22.cell (k := kC) (v := .slice (some ⟨bC, 0, none⟩) lC.length cC) (by simp)
        have hc38 := hB22.cell (k := kB) (v := .slice (some ⟨bB, 0, none⟩) lB.length cB) (by simp)
        have hc39 := hB22.cell (k := kA) (v := .slice (some ⟨bA, 0, none⟩) lA.length cA) (by simp)
        go_wp2_with fail
        generalize pairH lE xE1 xE2 = q1 at *
        generalize pairX lE xE1 xE2 = q2 at *
        generalize pairY lE xE1 xE2 = q3 at *
        generalize full lE xE1 xE2 = q4 at *
        have hS0 := S2 (kB := kC) (u := .slice (some ⟨bC, 0, none⟩) lC.length cC) (kC := kD) (v := .slice (some ⟨bD, 0, none⟩) lD.length cD) (hB22.drew) (by simp) (by simp)
        clear hB22 hc35 hc36 hc37 hc38 hc39
        refine wp_region_held_drew (S := fun w' => w'.cell? ⟨kC, 0, none⟩ = some (.slice (some ⟨bC, 0, none⟩) lC.length cC) ∧ w'.cell? ⟨kD, 0, none⟩ = some (.slice (some ⟨bD, 0, none⟩) lD.length cD) ∧ Bag w [(kE, .slice (some ⟨bE, 0, none⟩) lE.length cE), (kD, .slice (some ⟨bD, 0, none⟩) lD.length cD), (kC, .slice (some ⟨bC, 0, none⟩) lC.length cC), (kB, .slice (some ⟨bB, 0, none⟩) lB.length cB), (kA, .slice (some ⟨bA, 0, none⟩) lA.length cA)] [(bE, lE), (bD, lD), (bC, lC), (bB, lB), (bA, lA)] w') (by kernel_rfl) hS0 (fun hHeld => ?_)
        clear hS0
        (refine wpAnyH_take (i := 0) (oi := ?oi56) (v := ?v56) ?hi56 (by kernel_rfl) (by kernel_rfl) (by kernel_rfl) ?hq56 ?hy56 (by assumption) ?hr56; (case hi56 => ((simp only [List.getElem?_toArray, List.getElem?_cons_zero]); exact rfl)); (case hq56 => exact fun _ _ _ h => h); (case hy56 => (refine Or.inl ⟨by rfl, ?_⟩; (intro w hSw); (try dsimp only at hSw); go_simp; (try with_reducible rfl))); (try simp only [Act.put, List.setIfInBounds_toArray, List.set_cons_zero, List.set_cons_succ])); (refine wpAnyH_take (i := 1) (oi := ?oi57) (v := ?v57) ?hi57 (by kernel_rfl) (by kernel_rfl) (by kernel_rfl) ?hq57 ?hy57 (by assumption) ?hr57; (case hi57 => ((simp only [List.getElem?_toArray, List.getElem?_cons_zero, List.getElem?_cons_succ]); exact rfl)); (case hq57 => exact fun _ _ _ h => h); (case hy57 => (refine Or.inl ⟨by rfl, ?_⟩; (intro w hSw); (try dsimp only at hSw); go_simp; (try with_reducible rfl))); (try simp only [Act.put, List.setIfInBounds_toArray, List.set_cons_zero, List.set_cons_succ])); (refine wpAnyH_take (i := 2) (oi := ?oi58) (v := ?v58) ?hi58 (by kernel_rfl) (by kernel_rfl) (by kernel_rfl) ?hq58 ?hy58 (by assumption) ?hr58; (case hi58 => ((simp only [List.getElem?_toArray, List.getElem?_cons_zero, List.getElem?_cons_succ]); exact rfl)); (case hq58 => exact fun _ _ _ h => h); (case hy58 => (refine Or.inl ⟨by rfl, ?_⟩; (intro w hSw); (try dsimp only at hSw); go_simp; (try with_reducible rfl))); (try simp only [Act.put, List.setIfInBounds_toArray, List.set_cons_zero, List.set_cons_succ]))
        (refine wpAnyH_take (i := 4) (oi := ?oi59) (v := ?v59) ?hi59 (by kernel_rfl) (by kernel_rfl) (by kernel_rfl) ?hq59 ?hy59 (by assumption) ?hr59; (case hi59 => ((simp only [List.getElem?_toArray, List.getElem?_cons_zero, List.getElem?_cons_succ]); exact rfl)); (case hq59 => exact fun _ _ _ h => h); (case hy59 => (refine Or.inl ⟨by rfl, ?_⟩; (intro w hSw); (try dsimp only at hSw); go_simp; (try with_reducible rfl))); (try simp only [Act.put, List.setIfInBounds_toArray, List.set_cons_zero, List.set_cons_succ])); (refine wpAnyH_take (i := 5) (oi := ?oi60) (v := ?v60) ?hi60 (by kernel_rfl) (by kernel_rfl) (by kernel_rfl) ?hq60 ?hy60 (by assumption) ?hr60; (case hi60 => ((simp only [List.getElem?_toArray, List.getElem?_cons_zero, List.getElem?_cons_succ]); exact rfl)); (case hq60 => exact fun _ _ _ h => h); (case hy60 => (refine Or.inl ⟨by rfl, ?_⟩; (intro w hSw); (try dsimp only at hSw); go_simp; (try with_reducible rfl))); (try simp only [Act.put, List.setIfInBounds_toArray, List.set_cons_zero, List.set_cons_succ])); (refine wpAnyH_take (i := 6) (oi := ?oi61) (v := ?v61) ?hi61 (by kernel_rfl) (by kernel_rfl) (by kernel_rfl) ?hq61 ?hy61 (by assumption) ?hr61; (case hi61 => ((simp only [List.getElem?_toArray, List.getElem?_cons_zero, List.getElem?_cons_succ]); exact rfl)); (case hq61 => exact fun _ _ _ h => h); (case hy61 => (refine Or.inl ⟨by rfl, ?_⟩; (intro w hSw); (try dsimp only at hSw); go_simp; (try with_reducible rfl))); (try simp only [Act.put, List.setIfInBounds_toArray, List.set_cons_zero, List.set_cons_succ]))
        refine wpAnyH_ready (rs := [3]) (by kernel_rfl) (by simp) ?_; refine AllReadyH.cons rfl (fun K hK => ?_) AllReadyH.nil; go_simp
        (go_at_call 90; refine (sumDefect_any bC 0 cC lC xC1 xC2 _ (by omega) (Bag.grp (And.right (And.right hHeld)) (by simp))).mono ?_; rintro e wv23 ⟨rfl, hbel⟩)
        go_wp2_with fail
        refine hK.out _ _ ?ks (fun hHeld => ?_); (case ks => (exact S2 (kB := kC) (u := .slice (some ⟨bC, 0, none⟩) lC.length cC) (kC := kD) (v := .slice (some ⟨bD, 0, none⟩) lD.length cD) (Bag.step (And.right (And.right hHeld)) hbel) (by simp) (by simp))); clear hK K; (try simp only [Act.put, List.setIfInBounds_toArray, List.set_cons_zero, List.set_cons_succ])
        clear hbel
        refine wpAnyH_ready (rs := [7]) (by kernel_rfl) (by simp) ?_; refine AllReadyH.cons rfl (fun K hK => ?_) AllReadyH.nil; go_simp
        (go_at_call 91; refine (sSumDefect_any bC 0 cC lC xC1 xC2 _ (by omega) (Bag.grp (And.right (And.right hHeld)) (by simp))).mono ?_; rintro e wv24 ⟨rfl, hbel⟩)
        go_wp2_with fail
        refine hK.out _ _ ?ks (fun hHeld => ?_); (case ks => (exact S2 (kB := kC) (u := .slice (some ⟨bC, 0, none⟩) lC.length cC) (kC := kD) (v := .slice (some ⟨bD, 0, none⟩) lD.length cD) (Bag.step (And.right (And.right hHeld)) hbel) (by simp) (by simp))); clear hK K; (try simp only [Act.put, List.setIfInBounds_toArray, List.set_cons_zero, List.set_cons_succ])
        clear hbel
        (refine wpAnyH_take (i := 8) (oi := ?oi62) (v := ?v62) ?hi62 (by kernel_rfl) (by kernel_rfl) (by kernel_rfl) ?hq62 ?hy62 (by assumption) ?hr62; (case hi62 => ((simp only [List.getElem?_toArray, List.getElem?_cons_zero, List.getElem?_cons_succ]); exact rfl)); (case hq62 => exact fun _ _ _ h => h); (case hy62 => (refine Or.inl ⟨by rfl, ?_⟩; (intro w hSw); (try dsimp only at hSw); go_simp; (try with_reducible rfl))); (try simp only [Act.put, List.setIfInBounds_toArray, List.set_cons_zero, List.set_cons_succ])); (refine wpAnyH_take (i := 9) (oi := ?oi63) (v := ?v63) ?hi63 (by kernel_rfl) (by kernel_rfl) (by kernel_rfl) ?hq63 ?hy63 (by assumption) ?hr63; (case hi63 => ((simp only [List.getElem?_toArray, List.getElem?_cons_zero, List.getElem?_cons_succ]); exact rfl)); (case hq63 => exact fun _ _ _ h => h); (case hy63 => (refine Or.inl ⟨by rfl, ?_⟩; (intro w hSw); (try dsimp only at hSw); go_simp; (try with_reducible rfl))); (try simp only [Act.put, List.setIfInBounds_toArray, List.set_cons_zero, List.set_cons_succ])); (refine wpAnyH_take (i := 10) (oi := ?oi64) (v := ?v64) ?hi64 (by kernel_rfl) (by kernel_rfl) (by kernel_rfl) ?hq64 ?hy64 (by assumption) ?hr64; (case hi64 => ((simp only [List.getElem?_toArray, List.getElem?_cons_zero, List.getElem?_cons_succ]); exact rfl)); (case hq64 => exact fun _ _ _ h => h); (case hy64 => (refine Or.inl ⟨by rfl, ?_⟩; (intro w hSw); (try dsimp only at hSw); go_simp; (try with_reducible rfl))); (try simp only [Act.put, List.setIfInBounds_toArray, List.set_cons_zero, List.set_cons_succ])); (refine wpAnyH_take (i := 11) (oi := ?oi65) (v := ?v65) ?hi65 (by kernel_rfl) (by kernel_rfl) (by kernel_rfl) ?hq65 ?hy65 (by assumption) ?hr65; (case hi65 => ((simp only [List.getElem?_toArray, List.getElem?_cons_zero, List.getElem?_cons_succ]); exact rfl)); (case hq65 => exact fun _ _ _ h => h); (case hy65 => (refine Or.inl ⟨by rfl, ?_⟩; (intro w hSw); (try dsimp only at hSw); go_simp; (try with_reducible rfl))); (try simp only [Act.put, List.setIfInBounds_toArray, List.set_cons_zero, List.set_cons_succ])); (refine wpAnyH_take (i := 12) (oi := ?oi66) (v := ?v66) ?hi66 (by kernel_rfl) (by kernel_rfl) (by kernel_rfl) ?hq66 ?hy66 (by assumption) ?hr66; (case hi66 => ((simp only [List.getElem?_toArray, List.getElem?_cons_zero, List.getElem?_cons_succ]); exact rfl)); (case hq66 => exact fun _ _ _ h => h); (case hy66 => (refine Or.inl ⟨by rfl, ?_⟩; (intro w hSw); (try dsimp only at hSw); go_simp; (try with_reducible rfl))); (try simp only [Act.put, List.setIfInBounds_toArray, List.set_cons_zero, List.set_cons_succ]))
        (refine wpAnyH_take (i := 14) (oi := ?oi67) (v := ?v67) ?hi67 (by kernel_rfl) (by kernel_rfl) (by kernel_rfl) ?hq67 ?hy67 (by assumption) ?hr67; (case hi67 => ((simp only [List.getElem?_toArray, List.getElem?_cons_zero, List.getElem?_cons_succ]); exact rfl)); (case hq67 => exact fun _ _ _ h => h); (case hy67 => (refine Or.inl ⟨by rfl, ?_⟩; (intro w hSw); (try dsimp only at hSw); go_simp; (try with_reducible rfl))); (try simp only [Act.put, List.setIfInBounds_toArray, List.set_cons_zero, List.set_cons_succ])); (refine wpAnyH_take (i := 15) (oi := ?oi68) (v := ?v68) ?hi68 (by kernel_rfl) (by kernel_rfl) (by kernel_rfl) ?hq68 ?hy68 (by assumption) ?hr68; (case hi68 => ((simp only [List.getElem?_toArray, List.getElem?_cons_zero, List.getElem?_cons_succ]); exact rfl)); (case hq68 => exact fun _ _ _ h => h); (case hy68 => (refine Or.inl ⟨by rfl, ?_⟩; (intro w hSw); (try dsimp only at hSw); go_simp; (try with_reducible rfl))); (try simp only [Act.put, List.setIfInBounds_toArray, List.set_cons_zero, List.set_cons_succ])); (refine wpAnyH_take (i := 16) (oi := ?oi69) (v := ?v69) ?hi69 (by kernel_rfl) (by kernel_rfl) (by kernel_rfl) ?hq69 ?hy69 (by assumption) ?hr69; (case hi69 => ((simp only [List.getElem?_toArray, List.getElem?_cons_zero, List.getElem?_cons_succ]); exact rfl)); (case hq69 => exact fun _ _ _ h => h); (case hy69 => (refine Or.inl ⟨by rfl, ?_⟩; (intro w hSw); (try dsimp only at hSw); go_simp; (try with_reducible rfl))); (try simp only [Act.put, List.setIfInBounds_toArray, List.set_cons_zero, List.set_cons_succ]))
        refine wpAnyH_ready (rs := [13]) (by kernel_rfl) (by simp) ?_; refine AllReadyH.cons rfl (fun K hK => ?_) AllReadyH.nil; go_simp
        (go_at_call 92; refine (isKneserTight_any bD 0 cD lD xD1 xD2 _ (by omega) (Bag.grp (And.right (And.right hHeld)) (by simp))).mono ?_; rintro e wv25 ⟨rfl, hbel⟩)
        go_wp2_with fail
        refine hK.out _ _ ?ks (fun hHeld => ?_); (case ks => (exact S2 (kB := kC) (u := .slice (some ⟨bC, 0, none⟩) lC.length cC) (kC := kD) (v := .slice (some ⟨bD, 0, none⟩) lD.length cD) (Bag.step (And.right (And.right hHeld)) hbel) (by simp) (by simp))); clear hK K; (try simp only [Act.put, List.setIfInBounds_toArray, List.set_cons_zero, List.set_cons_succ])
        clear hbel
        refine wpAnyH_ready (rs := [17]) (by kernel_rfl) (by simp) ?_; refine AllReadyH.cons rfl (fun K hK => ?_) AllReadyH.nil; go_simp
        (go_at_call 93; refine (sIsKneserTight_any bD 0 cD lD xD1 xD2 _ (by omega) (Bag.grp (And.right (And.right hHeld)) (by simp))).mono ?_; rintro e wv26 ⟨rfl, hbel⟩)
        go_wp2_with fail
        refine hK.out _ _ ?ks (fun hHeld => ?_); (case ks => (exact S2 (kB := kC) (u := .slice (some ⟨bC, 0, none⟩) lC.length cC) (kC := kD) (v := .slice (some ⟨bD, 0, none⟩) lD.length cD) (Bag.step (And.right (And.right hHeld)) hbel) (by simp) (by simp))); clear hK K; (try simp only [Act.put, List.setIfInBounds_toArray, List.set_cons_zero, List.set_cons_succ])
        clear hbel
        (refine wpAnyH_take (i := 18) (oi := ?oi70) (v := ?v70) ?hi70 (by kernel_rfl) (by kernel_rfl) (by kernel_rfl) ?hq70 ?hy70 (by assumption) ?hr70; (case hi70 => ((simp only [List.getElem?_toArray, List.getElem?_cons_zero, List.getElem?_cons_succ]); exact rfl)); (case hq70 => exact fun _ _ _ h => h); (case hy70 => (refine Or.inl ⟨by rfl, ?_⟩; (intro w hSw); (try dsimp only at hSw); go_simp; (try with_reducible rfl))); (try simp only [Act.put, List.setIfInBounds_toArray, List.set_cons_zero, List.set_cons_succ])); (refine wpAnyH_take (i := 19) (oi := ?oi71) (v := ?v71) ?hi71 (by kernel_rfl) (by kernel_rfl) (by kernel_rfl) ?hq71 ?hy71 (by assumption) ?hr71; (case hi71 => ((simp only [List.getElem?_toArray, List.getElem?_cons_zero, List.getElem?_cons_succ]); exact rfl)); (case hq71 => exact fun _ _ _ h => h); (case hy71 => (refine Or.inl ⟨by rfl, ?_⟩; (intro w hSw); (try dsimp only at hSw); go_simp; (try with_reducible rfl))); (try simp only [Act.put, List.setIfInBounds_toArray, List.set_cons_zero, List.set_cons_succ])); (refine wpAnyH_take (i := 20) (oi := ?oi72) (v := ?v72) ?hi72 (by kernel_rfl) (by kernel_rfl) (by kernel_rfl) ?hq72 ?hy72 (by assumption) ?hr72; (case hi72 => ((simp only [List.getElem?_toArray, List.getElem?_cons_zero, List.getElem?_cons_succ]); exact rfl)); (case hq72 => exact fun _ _ _ h => h); (case hy72 => (refine Or.inl ⟨by rfl, ?_⟩; (intro w hSw); (try dsimp only at hSw); go_simp; (try with_reducible rfl))); (try simp only [Act.put, List.setIfInBounds_toArray, List.set_cons_zero, List.set_cons_succ])); (refine wpAnyH_take (i := 21) (oi := ?oi73) (v := ?v73) ?hi73 (by kernel_rfl) (by kernel_rfl) (by kernel_rfl) ?hq73 ?hy73 (by assumption) ?hr73; (case hi73 => ((simp only [List.getElem?_toArray, List.getElem?_cons_zero, List.getElem?_cons_succ]); exact rfl)); (case hq73 => exact fun _ _ _ h => h); (case hy73 => (refine Or.inl ⟨by rfl, ?_⟩; (intro w hSw); (try dsimp only at hSw); go_simp; (try with_reducible rfl))); (try simp only [Act.put, List.setIfInBounds_toArray, List.set_cons_zero, List.set_cons_succ])); (refine wpAnyH_take (i := 22) (oi := ?oi74) (v := ?v74) ?hi74 (by kernel_rfl) (by kernel_rfl) (by kernel_rfl) ?hq74 ?hy74 (by assumption) ?hr74; (case hi74 => ((simp only [List.getElem?_toArray, List.getElem?_cons_zero, List.getElem?_cons_succ]); exact rfl)); (case hq74 => exact fun _ _ _ h => h); (case hy74 => (refine Or.inl ⟨by rfl, ?_⟩; (intro w hSw); (try dsimp only at hSw); go_simp; (try with_reducible rfl))); (try simp only [Act.put, List.setIfInBounds_toArray, List.set_cons_zero, List.set_cons_succ])); (refine wpAnyH_take (i := 23) (oi := ?oi75) (v := ?v75) ?hi75 (by kernel_rfl) (by kernel_rfl) (by kernel_rfl) ?hq75 ?hy75 (by assumption) ?hr75; (case hi75 => ((simp only [List.getElem?_toArray, List.getElem?_cons_zero, List.getElem?_cons_succ]); exact rfl)); (case hq75 => exact fun _ _ _ h => h); (case hy75 => (refine Or.inl ⟨by rfl, ?_⟩; (intro w hSw); (try dsimp only at hSw); go_simp; (try with_reducible rfl))); (try simp only [Act.put, List.setIfInBounds_toArray, List.set_cons_zero, List.set_cons_succ])); (refine wpAnyH_take (i := 24) (oi := ?oi76) (v := ?v76) ?hi76 (by kernel_rfl) (by kernel_rfl) (by kernel_rfl) ?hq76 ?hy76 (by assumption) ?hr76; (case hi76 => ((simp only [List.getElem?_toArray, List.getElem?_cons_zero, List.getElem?_cons_succ]); exact rfl)); (case hq76 => exact fun _ _ _ h => h); (case hy76 => (refine Or.inl ⟨by rfl, ?_⟩; (intro w hSw); (try dsimp only at hSw); go_simp; (try with_reducible rfl))); (try simp only [Act.put, List.setIfInBounds_toArray, List.set_cons_zero, List.set_cons_succ])); (refine wpAnyH_take (i := 25) (oi := ?oi77) (v := ?v77) ?hi77 (by kernel_rfl) (by kernel_rfl) (by kernel_rfl) ?hq77 ?hy77 (by assumption) ?hr77; (case hi77 => ((simp only [List.getElem?_toArray, List.getElem?_cons_zero, List.getElem?_cons_succ]); exact rfl)); (case hq77 => exact fun _ _ _ h => h); (case hy77 => (refine Or.inl ⟨by rfl, ?_⟩; (intro w hSw); (try dsimp only at hSw); go_simp; (try with_reducible rfl))); (try simp only [Act.put, List.setIfInBounds_toArray, List.set_cons_zero, List.set_cons_succ])); (refine wpAnyH_take (i := 26) (oi := ?oi78) (v := ?v78) ?hi78 (by kernel_rfl) (by kernel_rfl) (by kernel_rfl) ?hq78 ?hy78 (by assumption) ?hr78; (case hi78 => ((simp only [List.getElem?_toArray, List.getElem?_cons_zero, List.getElem?_cons_succ]); exact rfl)); (case hq78 => exact fun _ _ _ h => h); (case hy78 => (refine Or.inl ⟨by rfl, ?_⟩; (intro w hSw); (try dsimp only at hSw); go_simp; (try with_reducible rfl))); (try simp only [Act.put, List.setIfInBounds_toArray, List.set_cons_zero, List.set_cons_succ])); (refine wpAnyH_take (i := 27) (oi := ?oi79) (v := ?v79) ?hi79 (by kernel_rfl) (by kernel_rfl) (by kernel_rfl) ?hq79 ?hy79 (by assumption) ?hr79; (case hi79 => ((simp only [List.getElem?_toArray, List.getElem?_cons_zero, List.getElem?_cons_succ]); exact rfl)); (case hq79 => exact fun _ _ _ h => h); (case hy79 => (refine Or.inl ⟨by rfl, ?_⟩; (intro w hSw); (try dsimp only at hSw); go_simp; (try with_reducible rfl))); (try simp only [Act.put, List.setIfInBounds_toArray, List.set_cons_zero, List.set_cons_succ])); (refine wpAnyH_take (i := 28) (oi := ?oi80) (v := ?v80) ?hi80 (by kernel_rfl) (by kernel_rfl) (by kernel_rfl) ?hq80 ?hy80 (by assumption) ?hr80; (case hi80 => ((simp only [List.getElem?_toArray, List.getElem?_cons_zero, List.getElem?_cons_succ]); exact rfl)); (case hq80 => exact fun _ _ _ h => h); (case hy80 => (refine Or.inl ⟨by rfl, ?_⟩; (intro w hSw); (try dsimp only at hSw); go_simp; (try with_reducible rfl))); (try simp only [Act.put, List.setIfInBounds_toArray, List.set_cons_zero, List.set_cons_succ])); (refine wpAnyH_take (i := 29) (oi := ?oi81) (v := ?v81) ?hi81 (by kernel_rfl) (by kernel_rfl) (by kernel_rfl) ?hq81 ?hy81 (by assumption) ?hr81; (case hi81 => ((simp only [List.getElem?_toArray, List.getElem?_cons_zero, List.getElem?_cons_succ]); exact rfl)); (case hq81 => exact fun _ _ _ h => h); (case hy81 => (refine Or.inl ⟨by rfl, ?_⟩; (intro w hSw); (try dsimp only at hSw); go_simp; (try with_reducible rfl))); (try simp only [Act.put, List.setIfInBounds_toArray, List.set_cons_zero, List.set_cons_succ])); (refine wpAnyH_take (i := 30) (oi := ?oi82) (v := ?v82) ?hi82 (by kernel_rfl) (by kernel_rfl) (by kernel_rfl) ?hq82 ?hy82 (by assumption) ?hr82; (case hi82 => ((simp only [List.getElem?_toArray, List.getElem?_cons_zero, List.getElem?_cons_succ]); exact rfl)); (case hq82 => exact fun _ _ _ h => h); (case hy82 => (refine Or.inl ⟨by rfl, ?_⟩; (intro w hSw); (try dsimp only at hSw); go_simp; (try with_reducible rfl))); (try simp only [Act.put, List.setIfInBounds_toArray, List.set_cons_zero, List.set_cons_succ])); (refine wpAnyH_take (i := 31) (oi := ?oi83) (v := ?v83) ?hi83 (by kernel_rfl) (by kernel_rfl) (by kernel_rfl) ?hq83 ?hy83 (by assumption) ?hr83; (case hi83 => ((simp only [List.getElem?_toArray, List.getElem?_cons_zero, List.getElem?_cons_succ]); exact rfl)); (case hq83 => exact fun _ _ _ h => h); (case hy83 => (refine Or.inl ⟨by rfl, ?_⟩; (intro w hSw); (try dsimp only at hSw); go_simp; (try with_reducible rfl))); (try simp only [Act.put, List.setIfInBounds_toArray, List.set_cons_zero, List.set_cons_succ])); (refine wpAnyH_take (i := 32) (oi := ?oi84) (v := ?v84) ?hi84 (by kernel_rfl) (by kernel_rfl) (by kernel_rfl) ?hq84 ?hy84 (by assumption) ?hr84; (case hi84 => ((simp only [List.getElem?_toArray, List.getElem?_cons_zero, List.getElem?_cons_succ]); exact rfl)); (case hq84 => exact fun _ _ _ h => h); (case hy84 => (refine Or.inl ⟨by rfl, ?_⟩; (intro w hSw); (try dsimp only at hSw); go_simp; (try with_reducible rfl))); (try simp only [Act.put, List.setIfInBounds_toArray, List.set_cons_zero, List.set_cons_succ])); (refine wpAnyH_take (i := 33) (oi := ?oi85) (v := ?v85) ?hi85 (by kernel_rfl) (by kernel_rfl) (by kernel_rfl) ?hq85 ?hy85 (by assumption) ?hr85; (case hi85 => ((simp only [List.getElem?_toArray, List.getElem?_cons_zero, List.getElem?_cons_succ]); exact rfl)); (case hq85 => exact fun _ _ _ h => h); (case hy85 => (refine Or.inl ⟨by rfl, ?_⟩; (intro w hSw); (try dsimp only at hSw); go_simp; (try with_reducible rfl))); (try simp only [Act.put, List.setIfInBounds_toArray, List.set_cons_zero, List.set_cons_succ])); (refine wpAnyH_take (i := 34) (oi := ?oi86) (v := ?v86) ?hi86 (by kernel_rfl) (by kernel_rfl) (by kernel_rfl) ?hq86 ?hy86 (by assumption) ?hr86; (case hi86 => ((simp only [List.getElem?_toArray, List.getElem?_cons_zero, List.getElem?_cons_succ]); exact rfl)); (case hq86 => exact fun _ _ _ h => h); (case hy86 => (refine Or.inl ⟨by rfl, ?_⟩; (intro w hSw); (try dsimp only at hSw); go_simp; (try with_reducible rfl))); (try simp only [Act.put, List.setIfInBounds_toArray, List.set_cons_zero, List.set_cons_succ])); (refine wpAnyH_take (i := 35) (oi := ?oi87) (v := ?v87) ?hi87 (by kernel_rfl) (by kernel_rfl) (by kernel_rfl) ?hq87 ?hy87 (by assumption) ?hr87; (case hi87 => ((simp only [List.getElem?_toArray, List.getElem?_cons_zero, List.getElem?_cons_succ]); exact rfl)); (case hq87 => exact fun _ _ _ h => h); (case hy87 => (refine Or.inl ⟨by rfl, ?_⟩; (intro w hSw); (try dsimp only at hSw); go_simp; (try with_reducible rfl))); (try simp only [Act.put, List.setIfInBounds_toArray, List.set_cons_zero, List.set_cons_succ])); (refine wpAnyH_take (i := 36) (oi := ?oi88) (v := ?v88) ?hi88 (by kernel_rfl) (by kernel_rfl) (by kernel_rfl) ?hq88 ?hy88 (by assumption) ?hr88; (case hi88 => ((simp only [List.getElem?_toArray, List.getElem?_cons_zero, List.getElem?_cons_succ]); exact rfl)); (case hq88 => exact fun _ _ _ h => h); (case hy88 => (refine Or.inl ⟨by rfl, ?_⟩; (intro w hSw); (try dsimp only at hSw); go_simp; (try with_reducible rfl))); (try simp only [Act.put, List.setIfInBounds_toArray, List.set_cons_zero, List.set_cons_succ])); (refine wpAnyH_take (i := 37) (oi := ?oi89) (v := ?v89) ?hi89 (by kernel_rfl) (by kernel_rfl) (by kernel_rfl) ?hq89 ?hy89 (by assumption) ?hr89; (case hi89 => ((simp only [List.getElem?_toArray, List.getElem?_cons_zero, List.getElem?_cons_succ]); exact rfl)); (case hq89 => exact fun _ _ _ h => h); (case hy89 => (refine Or.inl ⟨by rfl, ?_⟩; (intro w hSw); (try dsimp only at hSw); go_simp; (try with_reducible rfl))); (try simp only [Act.put, List.setIfInBounds_toArray, List.set_cons_zero, List.set_cons_succ])); (refine wpAnyH_take (i := 38) (oi := ?oi90) (v := ?v90) ?hi90 (by kernel_rfl) (by kernel_rfl) (by kernel_rfl) ?hq90 ?hy90 (by assumption) ?hr90; (case hi90 => ((simp only [List.getElem?_toArray, List.getElem?_cons_zero, List.getElem?_cons_succ]); exact rfl)); (case hq90 => exact fun _ _ _ h => h); (case hy90 => (refine Or.inl ⟨by rfl, ?_⟩; (intro w hSw); (try dsimp only at hSw); go_simp; (try with_reducible rfl))); (try simp only [Act.put, List.setIfInBounds_toArray, List.set_cons_zero, List.set_cons_succ])); (refine wpAnyH_take (i := 39) (oi := ?oi91) (v := ?v91) ?hi91 (by kernel_rfl) (by kernel_rfl) (by kernel_rfl) ?hq91 ?hy91 (by assumption) ?hr91; (case hi91 => ((simp only [List.getElem?_toArray, List.getElem?_cons_zero, List.getElem?_cons_succ]); exact rfl)); (case hq91 => exact fun _ _ _ h => h); (case hy91 => (refine Or.inl ⟨by rfl, ?_⟩; (intro w hSw); (try dsimp only at hSw); go_simp; (try with_reducible rfl))); (try simp only [Act.put, List.setIfInBounds_toArray, List.set_cons_zero, List.set_cons_succ])); (refine wpAnyH_take (i := 40) (oi := ?oi92) (v := ?v92) ?hi92 (by kernel_rfl) (by kernel_rfl) (by kernel_rfl) ?hq92 ?hy92 (by assumption) ?hr92; (case hi92 => ((simp only [List.getElem?_toArray, List.getElem?_cons_zero, List.getElem?_cons_succ]); exact rfl)); (case hq92 => exact fun _ _ _ h => h); (case hy92 => (refine Or.inl ⟨by rfl, ?_⟩; (intro w hSw); (try dsimp only at hSw); go_simp; (try with_reducible rfl))); (try simp only [Act.put, List.setIfInBounds_toArray, List.set_cons_zero, List.set_cons_succ]))
        refine wpAnyH_done (by kernel_rfl) ?_ _
        have hBe := (And.right (And.right hHeld))
        clear hHeld
        go_wp2_with fail
        go_ret
        exact ⟨rfl, hBe.below⟩
  · have hI : (1048576 : Int) < (n : Int) := by omega
    clear hb
    go_enter Try.func8, Try.ntmps8
    go_wp2_with fail
    refine (big_any a n cp w).mono ?_; rintro e w' ⟨rfl, rfl⟩
    go_wp2_with fail
    go_ret
    exact ⟨rfl, Below.refl _ _⟩
set_option linter.unusedVariables false in
set_option maxRecDepth 100000 in
set_option maxHeartbeats 2000000 in
theorem lifted (os : Os) (started : os.Started) (H : Type) (enc : TypeId × Value → H) :
    ReturnsInHanded {} Try.checked os 8 .any (Rows.fnBoundsSpec.pre6 enc Try.prog Try.f8 Rows.fnBoundsRow.domain false) (Rows.fnBoundsSpec.post enc Try.prog Try.f8 false true false false) := by
  refine returnsInHanded_of_change (C := Try.checked) own started (by kernel_rfl) Try.func8
    (ChangeSpec.witness6 (enc := enc) (C := Try.checked) false ⟨#[], #[.slice none 0 0], []⟩ 8 (by kernel_rfl) (by kernel_rfl) (by kernel_rfl) (by kernel_rfl)) ?_
  intro W base args ds gs before hval0 hW hcnd _
  have hval : ∀ (j : Nat) t v, Try.f8.params[j]? = some t → args[j]? = some v → Value.okWide Try.prog W .any base t v := hval0
  have hW' := hW
  obtain ⟨p, q, hA0, hV, rfl, hfz, hnd⟩ := hW
  have hA : DataW.TrodAll enc Try.prog W 0 (fun _ => true) true Try.f8.params.toList args.toList ds p := hA0
  rw [Try.params8] at hA hval
  obtain ⟨v0, vs0, d0, ds0, p0, q0, hargs, rfl, rfl, h0, r0⟩ := trodAll_cons hA
  obtain ⟨rfl, rfl, rfl⟩ := trodAll_nil r0
  obtain rfl : args = #[v0] := by cases args; simp_all
  obtain ⟨rfl, rfl⟩ := trodVars_none hV
  have k0 := h0
  have lt0 : ∀ x ∈ p0, x.block < W.heap.size := by obtain ⟨m, hm⟩ := k0; exact DataW.trod_lt m _ _ _ hm
  obtain ⟨x0, n0, m0, rfl⟩ := okWide_slice Try.underlying22 (hval 0 22 v0 rfl rfl)
  obtain ⟨fu0, hf0⟩ := h0
  obtain ⟨a0, l0, cap0, e0, hr0, hl0⟩ := open_bytes (by simpa [Value.cells] using hf0)
  simp only [Value.slice.injEq] at e0
  obtain ⟨rfl, rfl, rfl⟩ := e0
  clear hA0 hval0
  refine (walk x0 m0 n0 W hl0 hr0).mono fun e W' ⟨he, bel⟩ => ?_
  subst he
  exact ⟨_, rfl, _, _, _, [], _, [], hW', trodAll_mk1 (shut_bool Try.underlying4 _), (trodAll_cons_mk (Below.trod laidOut (by kernel_rfl) (of_decide_eq_true (by kernel_rfl)) k0 bel lt0) trodAll_mk0), rfl, bel.frame _, fun h => by cases h⟩

theorem over : Rows.fnBoundsRow.holds Try.pinned (OpenSpec.ofChange Rows.fnBoundsSpec) :=
  OpenClaim.holds_of_wide 8 Try.f8 rfl rfl rfl rfl rfl rfl rfl ⟨rfl, rfl, rfl, rfl, rfl⟩ rfl rfl rfl rfl rfl (by kernel_rfl) Try.func8 (by kernel_rfl)
    (of_decide_eq_true (by kernel_rfl)) (by unfold Func.isWrapper; first | (rw [if_pos (by decide +kernel)]; kernel_rfl) | (rw [if_neg (by decide +kernel)]; exact ⟨rfl, rfl⟩))
    (fun os started H enc _ => lifted os started H enc)

theorem proved : Rows.FnBoundsSaid := over
#print axioms proved
end Go.Proofs.Ytpflnmcecnbilaa.lawFnBounds
