/-
  Proved: FnRatios returns true for every code: parts with the least ratio obey the inequality of Petridis for all further sets.
  Conditions: none.
-/
import Derived.Test.YtpflnmcecnbilaaLaw6
import Derived.Test.YtpflnmcecnbilaaFRat2
import Derived.Test.YtpflnmcecnbilaaLeast3
import Derived.Test.YtpflnmcecnbilaaRatio
import Derived.Test.YtpflnmcecnbilaaCmp
import Derived.Test.YtpflnmcecnbilaaDefect
import Derived.Test.YtpflnmcecnbilaaIter
import Derived.Deep.RegionHeld3
import Derived.BigRegion
import Derived.Deep.Cut
import Derived.Deep.QuietTactic
import Derived.BigQuiet
namespace Go.Proofs.Ytpflnmcecnbilaa.lawFnRatios
open Go.ChangeShapes Go.WideShapes Go.ChangeAt Go.RowKit

set_option maxRecDepth 4000 in
set_option maxHeartbeats 2000000 in
theorem walk (a : Option Addr) (cp n : Nat) (w : World) (hl : n ≤ 9223372036854775807) (hb : BytesV w a n) :
    Calls Try.prog 3 #[.slice a n cp] w fun e w' => e = .returned (.bool true) ∧ Below w.heap.size w w' := by
  have hB0 := Bag.init w
  by_cases hn : n ≤ 1048576
  · have hI : ¬ (1048576 : Int) < (n : Int) := by omega
    go_enter Try.func3, Try.ntmps3
    go_wp2_with fail
    refine (big_any a n cp w).mono ?_; rintro e w' ⟨rfl, rfl⟩
    go_wp2_with fail
    refine (DrawLeastRatio_any a n cp w (by omega) (hB0.code hb)).mono ?_; rintro e wv1 ⟨bA, cA, lA, xA1, xA2, rfl, -, hlA, hgA, hxA1, hxA2, hbel⟩
    have hBA := ((hB0.step hbel).addG hgA).box (.slice (some ⟨bA, 0, none⟩) lA.length cA) 26
    clear hbel hgA hB0
    generalize hk : wv1.heap.size = kA at *
    have hc1 := hBA.cell (k := kA) (v := .slice (some ⟨bA, 0, none⟩) lA.length cA) (by simp)
    go_wp2_with fail
    generalize wv1.alloc (.cells #[.slice (some ⟨bA, 0, none⟩) lA.length cA] 26) = wA at *
    clear hk
    refine (leastRatio_any bA 0 cA lA xA1 xA2 wA (by omega) (hBA.grp (by simp))).mono ?_; rintro e wv2 ⟨rfl, hbel⟩
    have hB2 := hBA.step hbel
    clear hbel hBA
    clear hc1
    have hc2 := hB2.cell (k := kA) (v := .slice (some ⟨bA, 0, none⟩) lA.length cA) (by simp)
    go_wp2_with fail
    refine (sLeastRatio_any bA 0 cA lA xA1 xA2 wv2 (by omega) (hB2.grp (by simp))).mono ?_; rintro e wv3 ⟨rfl, hbel⟩
    have hB3 := hB2.step hbel
    clear hbel hB2
    clear hc2
    have hc3 := hB3.cell (k := kA) (v := .slice (some ⟨bA, 0, none⟩) lA.length cA) (by simp)
    go_upto_if 70 with fail
    go_cut [3] from 4 (fun _ wr => Bag w [] [] wr)
    case first =>
      by_cases hok : lrOk lA xA1 xA2 = true
      · obtain ⟨Y, p, q, r, s, P, LI, hlr0, hY, hp0, hq0, hr0, hs0, hcmp0, hil0, hpet0, hpetb0, hit0, hlen0, hstp0, hL240, hp24, hq24, hP1, hP2, hfull0⟩ := ratios_all hok
        have hok1 := hid hok
        have hlr := hid hlr0
        have hp := hid hp0
        have hq := hid hq0
        have hr := hid hr0
        have hs := hid hs0
        have hcmp := hid hcmp0
        have hil := hid hil0
        have hpet := hid hpet0
        have hpetb := hid hpetb0
        have hit := hid hit0
        have hlen := hid hlen0
        have hstp := hid hstp0
        have hL24 := hid hL240
        have hfull := hid hfull0
        clear hok hlr0 hp0 hq0 hr0 hs0 hcmp0 hil0 hpet0 hpetb0 hit0 hlen0 hstp0 hL240 hfull0
        rw [hlr.out, hok1.out]
        go_wp2_with fail
        refine (ratioOf_any bA 0 cA lA (Y : Int) xA2 wv3 (by omega) (hB3.grp (by simp))).mono ?_; rintro e wv4 ⟨rfl, hbel⟩; rw [hp.out, hq.out]
        have hB4 := hB3.step hbel
        clear hbel hB3
        clear hc3
        have hc4 := hB4.cell (k := kA) (v := .slice (some ⟨bA, 0, none⟩) lA.length cA) (by simp)
        go_wp2_with fail
        refine (ratioOf_any bA 0 cA lA xA1 xA2 wv4 (by omega) (hB4.grp (by simp))).mono ?_; rintro e wv5 ⟨rfl, hbel⟩; rw [hr.out, hs.out]
        have hB5 := hB4.step hbel
        clear hbel hB4
        clear hc4
        have hc5 := hB5.cell (k := kA) (v := .slice (some ⟨bA, 0, none⟩) lA.length cA) (by simp)
        go_wp2_with fail
        have hS0 := And.intro (hB5.drew.cell (k := kA) (v := .slice (some ⟨bA, 0, none⟩) lA.length cA) (by simp)) hB5.drew
        have hw3 : IntKind.i64.wrap (((P - 1 : Nat) : Int) + 1) = ((P : Nat) : Int) := by rw [IntKind.wrap_i64]; omega
        have hne : ¬ P = 0 := by omega
        clear hB5 hc5
        refine wp_region_held_drew (S := fun w' => w'.cell? ⟨kA, 0, none⟩ = some (.slice (some ⟨bA, 0, none⟩) lA.length cA) ∧ Bag w [(kA, .slice (some ⟨bA, 0, none⟩) lA.length cA)] [(bA, lA)] w') (by kernel_rfl) hS0 (fun hHeld => ?_)
        (refine wpAnyH_take (i := 0) (oi := ?oi1) (v := ?v1) ?hi1 (by kernel_rfl) (by kernel_rfl) (by kernel_rfl) ?hq1 ?hy1 (by assumption) ?hr1; (case hi1 => ((simp only [List.getElem?_toArray, List.getElem?_cons_zero]); exact rfl)); (case hq1 => exact fun _ _ _ h => h); (case hy1 => (refine Or.inl ⟨by rfl, ?_⟩; (intro w hSw); (try dsimp only at hSw); go_simp; (try with_reducible rfl))); (try simp only [Act.put, List.setIfInBounds_toArray, List.set_cons_zero, List.set_cons_succ]))
        (refine wpAnyH_take (i := 3) (oi := ?oi2) (v := ?v2) ?hi2 (by kernel_rfl) (by kernel_rfl) (by kernel_rfl) ?hq2 ?hy2 (by assumption) ?hr2; (case hi2 => ((simp only [List.getElem?_toArray, List.getElem?_cons_zero, List.getElem?_cons_succ]); exact rfl)); (case hq2 => exact fun _ _ _ h => h); (case hy2 => (refine Or.inl ⟨by rfl, ?_⟩; (intro w hSw); (try dsimp only at hSw); go_simp; (try with_reducible rfl))); (try simp only [Act.put, List.setIfInBounds_toArray, List.set_cons_zero, List.set_cons_succ]))
        (refine wpAnyH_take (i := 6) (oi := ?oi3) (v := ?v3) ?hi3 (by kernel_rfl) (by kernel_rfl) (by kernel_rfl) ?hq3 ?hy3 (by assumption) ?hr3; (case hi3 => ((simp only [List.getElem?_toArray, List.getElem?_cons_zero, List.getElem?_cons_succ]); exact rfl)); (case hq3 => exact fun _ _ _ h => h); (case hy3 => (refine Or.inl ⟨by rfl, ?_⟩; (intro w hSw); (try dsimp only at hSw); go_simp; (try with_reducible rfl))); (try simp only [Act.put, List.setIfInBounds_toArray, List.set_cons_zero, List.set_cons_succ]))
        refine wpAnyH_ready (rs := [1]) (by kernel_rfl) (by simp) ?_; refine AllReadyH.cons rfl (fun K hK => ?_) AllReadyH.nil; go_simp
        (go_at_call 15; refine (at_any a n cp 3 _ hn (by omega) (Bag.code (And.right hHeld) hb)).mono ?_; rintro e w6 ⟨z1, hz1, rfl, rfl⟩)
        go_wp2_with fail
        refine hK.out _ _ ?ks (fun hHeld => ?_); (case ks => (exact hHeld)); clear hK K; (try simp only [Act.put, List.setIfInBounds_toArray, List.set_cons_zero, List.set_cons_succ])
        obtain ⟨Z1, hw1, hZ1⟩ : ∃ Z : Nat, IntKind.i64.wrap ((z1 : Int) * 256) = (Z : Int) ∧ Z ≤ 65280 := ⟨z1 * 256, by rw [IntKind.wrap_i64]; omega, by omega⟩
        (refine wpAnyH_take (i := 2) (oi := ?oi4) (v := ?v4) ?hi4 (by kernel_rfl) (by kernel_rfl) (by kernel_rfl) ?hq4 ?hy4 (by assumption) ?hr4; (case hi4 => ((simp only [List.getElem?_toArray, List.getElem?_cons_zero, List.getElem?_cons_succ]); exact rfl)); (case hq4 => exact fun _ _ _ h => h); (case hy4 => (refine Or.inl ⟨by rfl, ?_⟩; (intro w hSw); (try dsimp only at hSw); go_simp; (try with_reducible rfl))); (try simp only [Act.put, List.setIfInBounds_toArray, List.set_cons_zero, List.set_cons_succ]))
        clear hw1
        refine wpAnyH_ready (rs := [4]) (by kernel_rfl) (by simp) ?_; refine AllReadyH.cons rfl (fun K hK => ?_) AllReadyH.nil; go_simp
        (go_at_call 15; refine (at_any a n cp 4 _ hn (by omega) (Bag.code (And.right hHeld) hb)).mono ?_; rintro e w6 ⟨z2, hz2, rfl, rfl⟩)
        go_wp2_with fail
        refine hK.out _ _ ?ks (fun hHeld => ?_); (case ks => (exact hHeld)); clear hK K; (try simp only [Act.put, List.setIfInBounds_toArray, List.set_cons_zero, List.set_cons_succ])
        obtain ⟨Z2, hw2⟩ : ∃ Z : Nat, IntKind.i64.wrap ((Z1 : Int) + (z2 : Int)) = (Z : Int) := ⟨Z1 + z2, by rw [IntKind.wrap_i64]; omega⟩
        (refine wpAnyH_take (i := 5) (oi := ?oi5) (v := ?v5) ?hi5 (by kernel_rfl) (by kernel_rfl) (by kernel_rfl) ?hq5 ?hy5 (by assumption) ?hr5; (case hi5 => ((simp only [List.getElem?_toArray, List.getElem?_cons_zero, List.getElem?_cons_succ]); exact rfl)); (case hq5 => exact fun _ _ _ h => h); (case hy5 => (refine Or.inl ⟨by rfl, ?_⟩; (intro w hSw); (try dsimp only at hSw); go_simp; (try with_reducible rfl))); (try simp only [Act.put, List.setIfInBounds_toArray, List.set_cons_zero, List.set_cons_succ]))
        clear hw2
        refine wpAnyH_ready (rs := [7]) (by kernel_rfl) (by simp) ?_; refine AllReadyH.cons rfl (fun K hK => ?_) AllReadyH.nil; go_simp
        (go_at_call 16; refine (sFullSet_any bA 0 cA lA _ (by omega) (Bag.grp (And.right hHeld) (by simp))).mono ?_; rintro e v6 ⟨rfl, hbel⟩; rw [hfull.out])
        go_wp2_with fail
        refine hK.out _ _ ?ks (fun hHeld => ?_); (case ks => (exact And.intro ((Bag.step (And.right hHeld) hbel).cell (k := kA) (v := .slice (some ⟨bA, 0, none⟩) lA.length cA) (by simp)) (Bag.step (And.right hHeld) hbel))); clear hK K; (try simp only [Act.put, List.setIfInBounds_toArray, List.set_cons_zero, List.set_cons_succ])
        clear hbel
        (refine wpAnyH_take (i := 8) (oi := ?oi6) (v := ?v6) ?hi6 (by kernel_rfl) (by kernel_rfl) (by kernel_rfl) ?hq6 ?hy6 (by assumption) ?hr6; (case hi6 => ((simp only [List.getElem?_toArray, List.getElem?_cons_zero, List.getElem?_cons_succ]); exact rfl)); (case hq6 => exact fun _ _ _ h => h); (case hy6 => (refine Or.inl ⟨by rfl, ?_⟩; (intro w hSw); (try dsimp only at hSw); go_simp; (try with_reducible rfl))); (try simp only [Act.put, List.setIfInBounds_toArray, List.set_cons_zero, List.set_cons_succ]))
        clear hw3
        (refine wpAnyH_take (i := 9) (oi := ?oi7) (v := ?v7) ?hi7 (by kernel_rfl) (by kernel_rfl) (by kernel_rfl) ?hq7 ?hy7 (by assumption) ?hr7; (case hi7 => ((simp only [List.getElem?_toArray, List.getElem?_cons_zero, List.getElem?_cons_succ]); exact rfl)); (case hq7 => exact fun _ _ _ h => h); (case hy7 => (refine Or.inl ⟨by rfl, ?_⟩; (intro w hSw); (try dsimp only at hSw); go_simp; (try with_reducible rfl))); (try simp only [Act.put, List.setIfInBounds_toArray, List.set_cons_zero, List.set_cons_succ])); (refine wpAnyH_take (i := 10) (oi := ?oi8) (v := ?v8) ?hi8 (by kernel_rfl) (by kernel_rfl) (by kernel_rfl) ?hq8 ?hy8 (by assumption) ?hr8; (case hi8 => ((simp only [List.getElem?_toArray, List.getElem?_cons_zero, List.getElem?_cons_succ]); exact rfl)); (case hq8 => exact fun _ _ _ h => h); (case hy8 => (refine Or.inl ⟨by rfl, ?_⟩; (intro w hSw); (try dsimp only at hSw); go_simp; (try with_reducible rfl))); (try simp only [Act.put, List.setIfInBounds_toArray, List.set_cons_zero, List.set_cons_succ]))
        refine wpAnyH_done (by kernel_rfl) ?_ _
        have hBz := And.right hHeld
        have hcx : Int.tmod (Z2 : Int) (P : Int) = ((Z2 % P : Nat) : Int) := rfl
        have hcp := Nat.mod_lt Z2 (show P > 0 by omega)
        rw [hcx]
        clear hcx
        generalize Z2 % P = cc at *
        have hpc := hid (hpet.out cc hcp)
        clear hpet hS0 hHeld
        have hc6 := hBz.cell (k := kA) (v := .slice (some ⟨bA, 0, none⟩) lA.length cA) (by simp)
        go_wp2_with fail
        refine (isLeastRatio_any bA 0 cA lA xA1 xA2 (Y : Int) v6 (by omega) (by omega) (hBz.grp (by simp))).mono ?_; rintro e wv6 ⟨rfl, hbel⟩; rw [hil.out]
        have hB6 := hBz.step hbel
        clear hbel hBz
        clear hc6
        have hc7 := hB6.cell (k := kA) (v := .slice (some ⟨bA, 0, none⟩) lA.length cA) (by simp)
        go_wp2_with fail
        refine (compareRatios_any (p : Int) q r s wv6).mono ?_; rintro e w' ⟨rfl, rfl⟩
        have hv1 := hcmp.out
        generalize cmpF (p : Int) q r s = v1 at *
        clear hcmp
        go_wp2_with fail
        refine (petridisGap_any bA 0 cA lA (Y : Int) xA2 (cc : Int) wv6 (by omega) (hB6.grp (by simp))).mono ?_; rintro e wv7 ⟨rfl, hbel⟩
        have hB7 := hB6.step hbel
        clear hbel hB6
        clear hc7
        have hc8 := hB7.cell (k := kA) (v := .slice (some ⟨bA, 0, none⟩) lA.length cA) (by simp)
        have hv2 := hpc.out
        generalize petF lA (Y : Int) xA2 (cc : Int) = v2 at *
        clear hpc
        go_wp2_with fail
        refine (petridisGap_any bA 0 cA lA (Y : Int) xA2 xA2 wv7 (by omega) (hB7.grp (by simp))).mono ?_; rintro e wv8 ⟨rfl, hbel⟩
        have hB8 := hB7.step hbel
        clear hbel hB7
        clear hc8
        have hc9 := hB8.cell (k := kA) (v := .slice (some ⟨bA, 0, none⟩) lA.length cA) (by simp)
        have hv3 := hpetb.out
        generalize petF lA (Y : Int) xA2 xA2 = v3 at *
        clear hpetb
        go_wp2_with fail
        have hcon := iteratedSizes_any bA 0 cA lA (Y : Int) xA2 3 wv8 (by omega) (hB8.grp (by simp))
        rw [hit.out] at hcon
        refine hcon.mono ?_; rintro e v7 ⟨g, gc, rfl, hmd⟩
        have hBy := hB8.step hmd.below
        have hg7 := hmd.grp
        have hlc : (cst LI).length = 4 := by rw [cst_length]; exact hlen.out
        rw [hlc]
        clear hcon hmd hB8 hc9
        go_wp2_with fail
        go_loopw [16] (fun i wr => ∃ k : Nat, i = .int .i64 ((k : Int) + 1) ∧ k ≤ 3 ∧ Bag w [(kA, .slice (some ⟨bA, 0, none⟩) lA.length cA)] [(bA, lA)] wr ∧ GrpAt wr g 0 (cst LI)) (fun i _ => 5 - (intOf i).toNat)
        case atStart => exact ⟨0, rfl, by omega, hBy, hg7⟩
        case round =>
          clear hBy hg7
          rename_i wr
          obtain ⟨k, rfl, hk, hBy, hg7⟩ := hrel
          by_cases hlt : k < 3
          · have hltI : ((k : Int) + 1) < 4 := by omega
            have hca := hg7.nat0 (k + 1) (by omega)
            have hcb := hg7.nat0 k (by omega)
            have hxa := hL24.out (k + 1)
            have hxb := hL24.out k
            have hle := hstp.out k (by omega)
            generalize LI.getD (k + 1) 0 = xa at *
            generalize LI.getD k 0 = xb at *
            have ha1 : xa * q ≤ 24 * 24 := Nat.mul_le_mul hxa hq24
            have ha2 : xb * p ≤ 24 * 24 := Nat.mul_le_mul hxb hp24
            have e1 : IntKind.i64.wrap ((xa : Int) * (q : Int)) = ((xa * q : Nat) : Int) := by rw [← Int.natCast_mul, IntKind.wrap_i64]; omega
            have e2 : IntKind.i64.wrap ((xb : Int) * (p : Int)) = ((xb * p : Nat) : Int) := by rw [← Int.natCast_mul, IntKind.wrap_i64]; omega
            have e3 : IntKind.i64.wrap ((k : Int) + 1 - 1) = (k : Int) := by rw [IntKind.wrap_i64]; omega
            have hcmp2 : decide (((xb * p : Nat) : Int) < ((xa * q : Nat) : Int)) = false := by simp only [decide_eq_false_iff_not]; omega
            have hca' : wr.cell? ⟨g, ((k : Int) + 1).toNat, none⟩ = some (.int .i64 (xa : Int)) := by rw [show ((k : Int) + 1).toNat = k + 1 from by omega]; exact hca
            generalize xa * q = ya at *
            generalize xb * p = yb at *
            go_wp2_with fail
            go_quiet (fail)
            go_wp2_with fail
            go_roundw
            case rel => exact ⟨k + 1, by go_num, by omega, hBy.draws _, hg7.drewN _⟩
            case measure => simp [intOf]; omega
          · have hltI : ¬ ((k : Int) + 1) < 4 := by omega
            go_wp2_with fail
            go_meet
            case rel => exact ⟨hBy.below, fun p hp => (by cases hp), fun p hp => (by cases hp)⟩
      · have hok1 := hid (show lrOk lA xA1 xA2 = false by simpa using hok)
        clear hok
        rw [hok1.out]
        go_wp2_with fail
        go_meet
        case rel => exact ⟨hB3.below, fun p hp => (by cases hp), fun p hp => (by cases hp)⟩
    case rest =>
      go_wp2_with fail
      refine (DrawIsLeastRatio_any a n cp wc (by omega) (hcut.code hb)).mono ?_; rintro e wv9 ⟨bB, cB, lB, xB1, xB2, xB3, rfl, -, hlB, hgB, hxB1, hxB2, hxB3, hbel⟩
      have hBB := ((hcut.step hbel).addG hgB).box (.slice (some ⟨bB, 0, none⟩) lB.length cB) 26
      clear hbel hgB hcut
      generalize hk : wv9.heap.size = kB at *
      have hc10 := hBB.cell (k := kB) (v := .slice (some ⟨bB, 0, none⟩) lB.length cB) (by simp)
      go_wp2_with fail
      generalize wv9.alloc (.cells #[.slice (some ⟨bB, 0, none⟩) lB.length cB] 26) = wB at *
      clear hk
      refine (DrawPetridisGap_any a n cp wB (by omega) (hBB.code hb)).mono ?_; rintro e wv10 ⟨bC, cC, lC, xC1, xC2, xC3, rfl, -, hlC, hgC, hxC1, hxC2, hxC3, hbel⟩
      have hBC := ((hBB.step hbel).addG hgC).box (.slice (some ⟨bC, 0, none⟩) lC.length cC) 26
      clear hbel hgC hBB
      generalize hk : wv10.heap.size = kC at *
      clear hc10
      have hc11 := hBC.cell (k := kC) (v := .slice (some ⟨bC, 0, none⟩) lC.length cC) (by simp)
      have hc12 := hBC.cell (k := kB) (v := .slice (some ⟨bB, 0, none⟩) lB.length cB) (by simp)
      go_wp2_with fail
      generalize wv10.alloc (.cells #[.slice (some ⟨bC, 0, none⟩) lC.length cC] 26) = wC at *
      clear hk
      refine (DrawIteratedSizes_any a n cp wC (by omega) (hBC.code hb)).mono ?_; rintro e wv11 ⟨bD, cD, lD, xD1, xD2, xD3, rfl, -, hlD, hgD, hxD1, hxD2, hxD3, hbel⟩
      have hBD := ((hBC.step hbel).addG hgD).box (.slice (some ⟨bD, 0, none⟩) lD.length cD) 26
      clear hbel hgD hBC
      generalize hk : wv11.heap.size = kD at *
      clear hc11 hc12
      have hc13 := hBD.cell (k := kD) (v := .slice (some ⟨bD, 0, none⟩) lD.length cD) (by simp)
      have hc14 := hBD.cell (k := kC) (v := .slice (some ⟨bC, 0, none⟩) lC.length cC) (by simp)
      have hc15 := hBD.cell (k := kB) (v := .slice (some ⟨bB, 0, none⟩) lB.length cB) (by simp)
      go_wp2_with fail
      generalize wv11.alloc (.cells #[.slice (some ⟨bD, 0, none⟩) lD.length cD] 26) = wD at *
      clear hk
      refine (DrawCompareRatios_any a n cp wD (by omega) (hBD.code hb)).mono ?_; rintro e wd ⟨y1, y2, y3, y4, rfl, -, -, -, -, hbel⟩
      have hBd := hBD.step hbel
      clear hbel hBD
      clear hc13 hc14 hc15
      have hc16 := hBd.cell (k := kD) (v := .slice (some ⟨bD, 0, none⟩) lD.length cD) (by simp)
      have hc17 := hBd.cell (k := kC) (v := .slice (some ⟨bC, 0, none⟩) lC.length cC) (by simp)
      have hc18 := hBd.cell (k := kB) (v := .slice (some ⟨bB, 0, none⟩) lB.length cB) (by simp)
      go_wp2_with fail
      refine (DrawRatioOf_any a n cp wd (by omega) (hBd.code hb)).mono ?_; rintro e wv12 ⟨bE, cE, lE, xE1, xE2, rfl, -, hlE, hgE, hxE1, hxE2, hbel⟩
      have hBE := ((hBd.step hbel).addG hgE).box (.slice (some ⟨bE, 0, none⟩) lE.length cE) 26
      clear hbel hgE hBd
      generalize hk : wv12.heap.size = kE at *
      clear hc16 hc17 hc18
      have hc19 := hBE.cell (k := kE) (v := .slice (some ⟨bE, 0, none⟩) lE.length cE) (by simp)
      have hc20 := hBE.cell (k := kD) (v := .slice (some ⟨bD, 0, none⟩) lD.length cD) (by simp)
      have hc21 := hBE.cell (k := kC) (v := .slice (some ⟨bC, 0, none⟩) lC.length cC) (by simp)
      have hc22 := hBE.cell (k := kB) (v := .slice (some ⟨bB, 0, none⟩) lB.length cB) (by simp)
      go_wp2_with fail
      generalize wv12.alloc (.cells #[.slice (some ⟨bE, 0, none⟩) lE.length cE] 26) = wE at *
      clear hk
      refine (ratioOf_any bE 0 cE lE xE1 xE2 wE (by omega) (hBE.grp (by simp))).mono ?_; rintro e wv13 ⟨rfl, hbel⟩
      have hB13 := hBE.step hbel
      clear hbel hBE
      clear hc19 hc20 hc21 hc22
      have hc23 := hB13.cell (k := kE) (v := .slice (some ⟨bE, 0, none⟩) lE.length cE) (by simp)
      have hc24 := hB13.cell (k := kD) (v := .slice (some ⟨bD, 0, none⟩) lD.length cD) (by simp)
      have hc25 := hB13.cell (k := kC) (v := .slice (some ⟨bC, 0, none⟩) lC.length cC) (by simp)
      have hc26 := hB13.cell (k := kB) (v := .slice (some ⟨bB, 0, none⟩) lB.length cB) (by simp)
      go_wp2_with fail
      refine (sRatioOf_any bE 0 cE lE xE1 xE2 wv13 (by omega) (hB13.grp (by simp))).mono ?_; rintro e wv14 ⟨rfl, hbel⟩
      have hB14 := hB13.step hbel
      clear hbel hB13
      clear hc23 hc24 hc25 hc26
      have hc27 := hB14.cell (k := kE) (v := .slice (some ⟨bE, 0, none⟩) lE.length cE) (by simp)
      have hc28 := hB14.cell (k := kD) (v := .slice (some ⟨bD, 0, none⟩) lD.length cD) (by simp)
      have hc29 := hB14.cell (k := kC) (v := .slice (some ⟨bC, 0, none⟩) lC.length cC) (by simp)
      have hc30 := hB14.cell (k := kB) (v := .slice (some ⟨bB, 0, none⟩) lB.length cB) (by simp)
      go_wp2_with fail
      have hS0 := S3 (kB := kB) (kC := kC) (kD := kD) (u := .slice (some ⟨bB, 0, none⟩) lB.length cB) (v := .slice (some ⟨bC, 0, none⟩) lC.length cC) (x := .slice (some ⟨bD, 0, none⟩) lD.length cD) hB14.drew (by simp) (by simp) (by simp)
      clear hB14 hc27 hc28 hc29 hc30
      go_region_held3 (fun w' => w'.cell? ⟨kB, 0, none⟩ = some (.slice (some ⟨bB, 0, none⟩) lB.length cB) ∧ w'.cell? ⟨kC, 0, none⟩ = some (.slice (some ⟨bC, 0, none⟩) lC.length cC) ∧ w'.cell? ⟨kD, 0, none⟩ = some (.slice (some ⟨bD, 0, none⟩) lD.length cD) ∧ Bag w [(kE, .slice (some ⟨bE, 0, none⟩) lE.length cE), (kD, .slice (some ⟨bD, 0, none⟩) lD.length cD), (kC, .slice (some ⟨bC, 0, none⟩) lC.length cC), (kB, .slice (some ⟨bB, 0, none⟩) lB.length cB)] [(bE, lE), (bD, lD), (bC, lC), (bB, lB)] w') (first | exact hS0 | exact S3 (kB := kB) (kC := kC) (kD := kD) (u := .slice (some ⟨bB, 0, none⟩) lB.length cB) (v := .slice (some ⟨bC, 0, none⟩) lC.length cC) (x := .slice (some ⟨bD, 0, none⟩) lD.length cD) (Bag.step (And.right (And.right (And.right (by assumption)))) hbel) (by simp) (by simp) (by simp) | exact S3 (kB := kB) (kC := kC) (kD := kD) (u := .slice (some ⟨bB, 0, none⟩) lB.length cB) (v := .slice (some ⟨bC, 0, none⟩) lC.length cC) (x := .slice (some ⟨bD, 0, none⟩) lD.length cD) (Bag.step (And.right (And.right (And.right (by assumption)))) hmd.below) (by simp) (by simp) (by simp) | assumption)
        (first | (go_at_call 17; refine (isLeastRatio_any bB 0 cB lB xB1 xB2 xB3 _ (by omega) hxB3.2 (Bag.grp (And.right (And.right (And.right (by assumption)))) (by simp))).mono ?_; rintro e wq ⟨rfl, hbel⟩) | (go_at_call 27; refine (sIsLeastRatio_any bB 0 cB lB xB1 xB2 xB3 _ (by omega) (Bag.grp (And.right (And.right (And.right (by assumption)))) (by simp))).mono ?_; rintro e wq ⟨rfl, hbel⟩) | (go_at_call 19; refine (petridisGap_any bC 0 cC lC xC1 xC2 xC3 _ (by omega) (Bag.grp (And.right (And.right (And.right (by assumption)))) (by simp))).mono ?_; rintro e wq ⟨rfl, hbel⟩) | (go_at_call 28; refine (sPetridisGap_any bC 0 cC lC xC1 xC2 xC3 _ (by omega) (Bag.grp (And.right (And.right (And.right (by assumption)))) (by simp))).mono ?_; rintro e wq ⟨rfl, hbel⟩) | (go_at_call 20; refine (iteratedSizes_any bD 0 cD lD xD1 xD2 xD3 _ (by omega) (Bag.grp (And.right (And.right (And.right (by assumption)))) (by simp))).mono ?_; rintro e wq ⟨g1, p1, rfl, hm1⟩; have hmd := hm1) | (go_at_call 30; refine (sIteratedSizes_any bD 0 cD lD xD1 xD2 xD3 _ (by omega) (Bag.grp (And.right (And.right (And.right (by assumption)))) (by simp))).mono ?_; rintro e wq ⟨g2, p2, rfl, hm2⟩; have hmd := hm2) | (go_at_call 29; refine (sameInts_any g1 p1 g2 p2 _ _ (iterF_len _ _ _ _) (hm1.grp.below hm2.below) hm2.grp).mono ?_; rintro e wq ⟨rfl, hbel⟩) | (go_at_call 18; refine (compareRatios_any y1 y2 y3 y4 _).mono ?_; rintro e w' ⟨rfl, rfl⟩) | (go_at_call 31; refine (sCompareRatios_any y1 y2 y3 y4 _).mono ?_; rintro e w' ⟨rfl, rfl⟩))
      have hend := (And.right (And.right (And.right (by assumption : (fun w' => w'.cell? ⟨kB, 0, none⟩ = some (.slice (some ⟨bB, 0, none⟩) lB.length cB) ∧ w'.cell? ⟨kC, 0, none⟩ = some (.slice (some ⟨bC, 0, none⟩) lC.length cC) ∧ w'.cell? ⟨kD, 0, none⟩ = some (.slice (some ⟨bD, 0, none⟩) lD.length cD) ∧ Bag w [(kE, .slice (some ⟨bE, 0, none⟩) lE.length cE), (kD, .slice (some ⟨bD, 0, none⟩) lD.length cD), (kC, .slice (some ⟨bC, 0, none⟩) lC.length cC), (kB, .slice (some ⟨bB, 0, none⟩) lB.length cB)] [(bE, lE), (bD, lD), (bC, lC), (bB, lB)] w') wq))) : Bag w [(kE, .slice (some ⟨bE, 0, none⟩) lE.length cE), (kD, .slice (some ⟨bD, 0, none⟩) lD.length cD), (kC, .slice (some ⟨bC, 0, none⟩) lC.length cC), (kB, .slice (some ⟨bB, 0, none⟩) lB.length cB)] [(bE, lE), (bD, lD), (bC, lC), (bB, lB)] wq).below
      go_wp2_with fail
      go_ret
      exact ⟨rfl, hend⟩
  · have hI : (1048576 : Int) < (n : Int) := by omega
    clear hb
    go_enter Try.func3, Try.ntmps3
    go_wp2_with fail
    refine (big_any a n cp w).mono ?_; rintro e w' ⟨rfl, rfl⟩
    go_wp2_with fail
    go_ret
    exact ⟨rfl, Below.refl _ _⟩
set_option linter.unusedVariables false in
set_option maxRecDepth 100000 in
set_option maxHeartbeats 2000000 in
theorem lifted (os : Os) (started : os.Started) (H : Type) (enc : TypeId × Value → H) :
    ReturnsInHanded {} Try.checked os 3 .any (Rows.fnRatiosSpec.pre6 enc Try.prog Try.f3 Rows.fnRatiosRow.domain false) (Rows.fnRatiosSpec.post enc Try.prog Try.f3 false true false false) := by
  refine returnsInHanded_of_change (C := Try.checked) own started (by kernel_rfl) Try.func3
    (ChangeSpec.witness6 (enc := enc) (C := Try.checked) false ⟨#[], #[.slice none 0 0], []⟩ 8 (by kernel_rfl) (by kernel_rfl) (by kernel_rfl) (by kernel_rfl)) ?_
  intro W base args ds gs before hval0 hW hcnd _
  have hval : ∀ (j : Nat) t v, Try.f3.params[j]? = some t → args[j]? = some v → Value.okWide Try.prog W .any base t v := hval0
  have hW' := hW
  obtain ⟨p, q, hA0, hV, rfl, hfz, hnd⟩ := hW
  have hA : DataW.TrodAll enc Try.prog W 0 (fun _ => true) true Try.f3.params.toList args.toList ds p := hA0
  rw [Try.params3] at hA hval
  obtain ⟨v0, vs0, d0, ds0, p0, q0, hargs, rfl, rfl, h0, r0⟩ := trodAll_cons hA
  obtain ⟨rfl, rfl, rfl⟩ := trodAll_nil r0
  obtain rfl : args = #[v0] := by cases args; simp_all
  obtain ⟨rfl, rfl⟩ := trodVars_none hV
  have k0 := h0
  have lt0 : ∀ x ∈ p0, x.block < W.heap.size := by obtain ⟨m, hm⟩ := k0; exact DataW.trod_lt m _ _ _ hm
  obtain ⟨x0, n0, m0, rfl⟩ := okWide_slice Try.underlying22 (hval 0 22 v0 rfl rfl)
  obtain ⟨fu0, hf0⟩ := h0
  obtain ⟨a0, l0, cap0, e0, hr0, hl0⟩ := open_bytes (by simpa [Value.cells] using hf0)
  simp only [Value.slice.injEq] at e0
  obtain ⟨rfl, rfl, rfl⟩ := e0
  clear hA0 hval0
  refine (walk x0 m0 n0 W hl0 hr0).mono fun e W' ⟨he, bel⟩ => ?_
  subst he
  exact ⟨_, rfl, _, _, _, [], _, [], hW', trodAll_mk1 (shut_bool Try.underlying4 _), (trodAll_cons_mk (Below.trod laidOut (by kernel_rfl) (of_decide_eq_true (by kernel_rfl)) k0 bel lt0) trodAll_mk0), rfl, bel.frame _, fun h => by cases h⟩

theorem over : Rows.fnRatiosRow.holds Try.pinned (OpenSpec.ofChange Rows.fnRatiosSpec) :=
  OpenClaim.holds_of_wide 3 Try.f3 rfl rfl rfl rfl rfl rfl rfl ⟨rfl, rfl, rfl, rfl, rfl⟩ rfl rfl rfl rfl rfl (by kernel_rfl) Try.func3 (by kernel_rfl)
    (of_decide_eq_true (by kernel_rfl)) (by unfold Func.isWrapper; first | (rw [if_pos (by decide +kernel)]; kernel_rfl) | (rw [if_neg (by decide +kernel)]; exact ⟨rfl, rfl⟩))
    (fun os started H enc _ => lifted os started H enc)

theorem proved : Rows.FnRatiosSaid := over
#print axioms proved
end Go.Proofs.Ytpflnmcecnbilaa.lawFnRatios
