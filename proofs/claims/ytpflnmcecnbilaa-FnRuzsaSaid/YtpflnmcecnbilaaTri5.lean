/-
  Contracts: the map of Ruzsa's triangle, as the program makes it.
-/
import Derived.Test.YtpflnmcecnbilaaTri4
import Derived.WalkKit
import Derived.Deep.RegionHeld3
import Derived.Deep.CutRange
namespace Go.Proofs.Ytpflnmcecnbilaa
open Go.RowKit

theorem GK.hold {w w1 wr : World} {b off cap bm gD gU gV : Nat} {l : List Int} {L : List (Nat × Nat)} {D U V : List Nat} (hst : St w b off cap l w1) (h : GK w1 bm L gD D gU U gV V wr) :
    wr.cell? ⟨w.heap.size, 0, none⟩ = some (.slice (some ⟨b, off, none⟩) l.length cap) ∧ GK w1 bm L gD D gU U gV V wr := ⟨(hst.step h.gm.below).box, h⟩
theorem cells_two (w : World) (u v : Value) (t : TypeId) : (w.alloc (.cells #[u, v] t)).cell? ⟨w.heap.size, 0, none⟩ = some u ∧ (w.alloc (.cells #[u, v] t)).cell? ⟨w.heap.size, 1, none⟩ = some v :=
  ⟨by rw [World.cell?_alloc_at _ _ _ _ rfl]; rfl, by rw [World.cell?_alloc_at _ _ _ _ rfl]; rfl⟩
theorem fz_two (w : World) (u v : Value) (t : TypeId) : (w.alloc (.cells #[u, v] t)).frozen? ⟨w.heap.size, 0, none⟩ = false ∧ (w.alloc (.cells #[u, v] t)).frozen? ⟨w.heap.size, 1, none⟩ = false :=
  ⟨by rw [World.frozen?_alloc_at _ _ _ _ rfl], by rw [World.frozen?_alloc_at _ _ _ _ rfl]⟩
theorem set_two {w : World} {k : Nat} {a b : Value} (h0 : w.cell? ⟨k, 0, none⟩ = some a) (h1 : w.cell? ⟨k, 1, none⟩ = some b) (u v : Value) : ((w.setCell ⟨k, 0, none⟩ u).setCell ⟨k, 1, none⟩ v).cell? ⟨k, 0, none⟩ = some u ∧ ((w.setCell ⟨k, 0, none⟩ u).setCell ⟨k, 1, none⟩ v).cell? ⟨k, 1, none⟩ = some v := by
  constructor
  · rw [World.cell?_setCell_other _ _ _ _ (by simp)]; exact World.cell?_setCell_same _ _ _ h0
  · refine World.cell?_setCell_same _ _ _ (u := b) ?_
    rw [World.cell?_setCell_other _ _ _ _ (by simp)]; exact h1
theorem GK.home {w0 wr : World} {bm gD gU gV : Nat} {L : List (Nat × Nat)} {D U V : List Nat} (h : GK w0 bm L gD D gU U gV V wr) : GK w0 bm L gD D gD D gD D wr := ⟨h.gm, h.d, h.d, h.d, h.nd, h.nd, h.nd⟩
theorem tri_none {L : List (Nat × Nat)} {p : Nat × Nat} (hL : ∀ q ∈ L, q.1 < 24 ∧ q.2 < 24) (hp : p.1 < 24 ∧ p.2 < 24) (h : ¬ p ∈ L) {c : Int} (hat : (triD L).atKey (kyN p) (.lit (.int .i64 0)) = .lit (.int .i64 c)) : ¬ 0 < c := by
  rw [Maps.atKey_of_not_has (triD_new hL hp h)] at hat
  simp at hat; omega
theorem tri_zero (w : World) : (zeroValue 3).run Try.prog w = .ok (.int .i64 0) w := by kernel_rfl
set_option maxRecDepth 4000 in
set_option maxHeartbeats 1600000 in
theorem triangleMap_any (b off cap : Nat) (l : List Int) (x y z : Int) (w : World) (hl : l.length ≤ 1099511627776) (hg : GrpAt w b off l) :
    Calls Try.prog 56 #[.agg #[.slice (some ⟨b, off, none⟩) l.length cap], .int .i64 x, .int .i64 y, .int .i64 z] w fun e w' => e = .returned (.tuple #[.int .i64 (triA l x y z : Nat), .bool (three l x y z)]) ∧ Below w.heap.size w w' := by
  have hmm := @run_makeMap Try.prog
  have hst := St.init cap 26 hg
  have hst1 := hst.step ((Below.refl _ _).alloc (Nat.le_refl _) (.cells #[.int .i64 x, .int .i64 y, .int .i64 z] 3))
  have hg2 := GrpAt.three (w.alloc (.cells #[.slice (some ⟨b, off, none⟩) l.length cap] 26)) x y z 3 (w.heap.size + 1) (by simp)
  clear hst hg
  by_cases h3 : three l x y z = true
  · have h30 := three_iff.1 h3
    obtain ⟨m, A, B, C, hm, rfl, rfl, rfl, rfl, hA, hB, hC⟩ := h30
    have hr := hid (triA_yes h3)
    have hok := hid h3
    have hA' := Nat.lt_of_lt_of_le hA hm.pow_le
    have hB' := Nat.lt_of_lt_of_le hB hm.pow_le
    have hC' := Nat.lt_of_lt_of_le hC hm.pow_le
    have hD' : diffN m A C < 16777216 := sumN_lt hm A (oppN m C)
    go_enter Try.func56, Try.ntmps56
    go_wp2_with fail
    refine (areSets_three _ _ _ _ _ _ _ _ _ _ hl hst1.grp hg2).mono ?_; rintro e w1 ⟨rfl, hb1⟩; rw [h3]; have hst2 := hst1.step hb1
    clear hst1 hg2 hb1 h3
    have hst3 := hst2.step ((Below.refl _ _).alloc (Nat.le_refl _) (.map #[] 0))
    have hgm0 := GM.start w1
    have hbx := hst3.box
    go_wp2_with fail
    refine (difference_any _ _ _ _ _ _ _ hm (by omega) (by omega) hst3.grp).mono ?_; rintro e w2 ⟨rfl, hb2⟩; have hgm2 := hgm0.step hb2; have hst4 := hst3.step hb2
    clear hgm0 hst3 hb2 hbx
    go_wp2_with fail
    refine (members_any _ _ hD').mono ?_; rintro e w3 ⟨gD, cD, rfl, hmD⟩
    have hgm3 := hgm2.step hmD.below
    have hD3 := hmD.grp
    have hnD : gD ≠ w1.heap.size := by have h1 := (hmD.own.lt gD rfl).1; have h2 := hgm2.own.lt; omega
    have hgk : GK w1 w1.heap.size (prL m A B C 0 0) gD (mem (diffN m A C)) gD (mem (diffN m A C)) gD (mem (diffN m A C)) w3 := ⟨hgm3, hD3, hD3, hD3, hnD, hnD, hnD⟩
    have hDl : (cst (mem (diffN m A C))).length ≤ 24 := by rw [cst_length]; exact card_le _
    have hYl : (cst (mem B)).length ≤ 24 := by rw [cst_length]; exact card_le _
    have hAl : (cst (mem A)).length ≤ 24 := by rw [cst_length]; exact card_le _
    have hsz := hid (tri_size hm hA hB hC)
    clear hgm2 hgm3 hD3 hmD hst4 hmm
    go_wp2
    go_loopw [33] (fun i wr => ∃ k : Nat, i = .int .i64 k ∧ k ≤ (cst (mem (diffN m A C))).length ∧ GK w1 w1.heap.size (prL m A B C k 0) gD (mem (diffN m A C)) gD (mem (diffN m A C)) gD (mem (diffN m A C)) wr) (fun i _ => (cst (mem (diffN m A C))).length - (intOf i).toNat)
    case atStart => exact ⟨0, rfl, by omega, hgk⟩
    case round =>
      clear hgk
      rename_i wr
      obtain ⟨i, rfl, hi1, hgr⟩ := hrel
      by_cases hlt : i < (cst (mem (diffN m A C))).length
      · have hiN : i < (mem (diffN m A C)).length := by rw [cst_length] at hlt; exact hlt
        have hck := hgr.d.nat0 i hlt
        obtain ⟨d, hd⟩ : ∃ d, Hid ((mem (diffN m A C)).getD i 0 = d) := ⟨_, rfl⟩
        rw [hd.out] at hck
        go_wp2_with fail
        refine (members_any _ _ hA').mono ?_; rintro e w4 ⟨gU, cU, rfl, hmU⟩
        have hgr4 := (hgr.step hmU.below).atU hmU.grp (by have h1 := (hmU.own.lt gU rfl).1; have h2 := hgr.gm.own.lt; omega)
        clear hgr hmU hck
        have hdm : d ∈ mem (diffN m A C) := by rw [← hd.out]; exact getD_mem _ 0 i hiN
        have hdn : d < prodN m := hm.mlt (hm.sum_lt A (oppN m C)) hdm
        have hd24 : d < 24 := by rw [← hd.out]; exact mem_getD_lt' hiN
        have hnd := hm.neg24 d
        have hex : Hid (∃ q, q < (mem A).length ∧ C.testBit (addN m ((mem A).getD q 0) (negN m d)) = true) := by
          obtain ⟨_, hx, hz⟩ := tx_spec hm hA hC hdm
          obtain ⟨q, hq, e⟩ := List.mem_iff_getElem.1 hx
          refine ⟨q, hq, ?_⟩
          have e' : (mem A).getD q 0 = txN m A C d := by simp [List.getD_eq_getElem?_getD, List.getElem?_eq_getElem hq, e]
          rw [e']; exact mem_testBit hz
        have hfst : Hid (∀ j, j < (mem A).length → (∀ k, k < j → C.testBit (addN m ((mem A).getD k 0) (negN m d)) = false) → C.testBit (addN m ((mem A).getD j 0) (negN m d)) = true → txN m A C d = (mem A).getD j 0) := fun j hj hb ht => tx_first hm hA hC hdn hj hb ht
        have hstp : Hid (∀ k, k < (mem B).length → prL m A B C i (k + 1) = prL m A B C i k ++ [tpN m A C d ((mem B).getD k 0)]) := fun k hk => by rw [← hd.out]; exact pr_step hk
        have hnx : Hid (prL m A B C (i + 1) 0 = prL m A B C i (mem B).length) := pr_next hiN
        have hnew : Hid (∀ k, k < (mem B).length → tpN m A C d ((mem B).getD k 0) ∉ prL m A B C i k) := fun k hk => by rw [← hd.out]; exact pr_new hm hA hB hC hiN hk
        have hbdd : Hid (∀ k, ∀ p ∈ prL m A B C i k, p.1 < 24 ∧ p.2 < 24) := fun k => pr_bd hm hiN
        have hlen : Hid (∀ k, (prL m A B C i k).length ≤ 576) := fun k => pr_len m A B C hiN
        clear hdm
        go_wp2
        go_loopw [40] (fun j wr => ∃ k : Nat, j = .int .i64 k ∧ k ≤ (cst (mem A)).length ∧ Hid (∀ q, q < k → C.testBit (addN m ((mem A).getD q 0) (negN m d)) = false) ∧ GK w1 w1.heap.size (prL m A B C i 0) gD (mem (diffN m A C)) gU (mem A) gD (mem (diffN m A C)) wr) (fun j _ => (cst (mem A)).length - (intOf j).toNat)
        case atStart => exact ⟨0, rfl, by omega, fun q hq => by omega, hgr4⟩
        case round =>
          clear hgr4
          rename_i wr
          obtain ⟨j, rfl, hj1, hno, hgr⟩ := hrel
          have hj2 : j < (cst (mem A)).length := by
            rw [cst_length]
            obtain ⟨q, hq, ht⟩ := hex.out
            rcases Nat.lt_or_ge j (mem A).length with h | h
            · exact h
            · rw [hno.out q (by omega)] at ht; cases ht
          have hjN : j < (mem A).length := by rw [cst_length] at hj2; exact hj2
          have hck := hgr.u.nat0 j hj2
          obtain ⟨X, hX⟩ : ∃ X, Hid ((mem A).getD j 0 = X) := ⟨_, rfl⟩
          have hx24 : X < 24 := by rw [← hX.out]; exact mem_getD_lt' hjN
          rw [hX.out] at hck
          have hbx := (hst2.step hgr.gm.below).box
          have hz24 := hm.add24 X (negN m d)
          go_wp2_with fail
          refine (minus_any _ _ _ _ _ _ _ hm (by omega) (by omega) (hst2.step hgr.gm.below).grp).mono ?_; rintro e w5 ⟨rfl, hb5⟩
          have hgr5 := hgr.step hb5
          clear hgr hck hbx hb5
          obtain ⟨Z, hZ⟩ : ∃ Z, Hid (addN m X (negN m d) = Z) := ⟨_, rfl⟩
          rw [hZ.out] at hz24 ⊢
          go_wp2_with fail
          refine (in_any _ _ _ (by omega) (by omega)).mono ?_; rintro e w6 ⟨rfl, rfl⟩
          by_cases hin : C.testBit Z = true
          · rw [hin]
            go_wp2_with fail
            refine (members_any _ _ hB').mono ?_; rintro e w7 ⟨gV, cV, rfl, hmV⟩
            have hgr7 := (hgr5.step hmV.below).atV hmV.grp (by have h1 := (hmV.own.lt gV rfl).1; have h2 := hgr5.gm.own.lt; omega)
            have htx : Hid (txN m A C d = X) := by
              unfold Hid; rw [← hX.out]
              exact hfst.out j hjN hno.out (by rw [hX.out, hZ.out]; exact hin)
            have htz : Hid (tzN m A C d = Z) := by unfold Hid tzN; rw [htx.out, hZ.out]
            clear hgr5 hmV hex hfst hno hin
            go_wp2
            go_loopw [55] (fun v wr => ∃ k : Nat, v = .int .i64 k ∧ k ≤ (cst (mem B)).length ∧ GK w1 w1.heap.size (prL m A B C i k) gD (mem (diffN m A C)) gU (mem A) gV (mem B) wr) (fun v _ => (cst (mem B)).length - (intOf v).toNat)
            case atStart => exact ⟨0, rfl, by omega, hgr7⟩
            case round =>
              clear hgr7
              rename_i wr
              obtain ⟨k, rfl, hk1, hgr⟩ := hrel
              by_cases hlk : k < (cst (mem B)).length
              · have hkN : k < (mem B).length := by rw [cst_length] at hlk; exact hlk
                have hck := hgr.v.nat0 k hlk
                obtain ⟨y, hy⟩ : ∃ y, Hid ((mem B).getD k 0 = y) := ⟨_, rfl⟩
                have hy24 : y < 24 := by rw [← hy.out]; exact mem_getD_lt' hkN
                rw [hy.out] at hck
                have hu24 := hm.add24 X (negN m y)
                have hv24 := hm.add24 y (negN m Z)
                have htp : Hid (tpN m A C d y = (addN m X (negN m y), addN m y (negN m Z))) := by unfold Hid tpN; rw [htx.out, htz.out]
                have hst1 := hid (hstp.out k hkN)
                have hne1 := hid (hnew.out k hkN)
                rw [hy.out, htp.out] at hst1 hne1
                have h2 := GK.hold hst2 (hgr.step (Below.refl _ _).drew)
                clear hgr htp
                go_wp2
                have hgrp : ∀ w', Below wr.drew.heap.size wr.drew w' → GrpAt w' b off (cst m) := fun w' hb => ((hst2.step (h2.2).gm.below).grp).below hb
                have hkeep : ∀ w', Below wr.drew.heap.size wr.drew w' → w'.cell? ⟨w.heap.size, 0, none⟩ = some (.slice (some ⟨b, off, none⟩) (cst m).length cap) ∧ Below wr.drew.heap.size wr.drew w' := fun w' hb => ⟨(hb.cell (p := ⟨w.heap.size, 0, none⟩) (by have h1 := (h2.2).gm.below.size; have h3 := hst2.size; show w.heap.size < _; omega)).trans h2.1, hb⟩
                have hgk := hid h2.2
                clear h2
                go_cut [18, 55] from 55 to 74 (fun s t w' => ∃ q : Nat, s = .pointer (some ⟨q, 0, none⟩) ∧ t = .int .i64 k ∧ w'.cell? ⟨q, 0, none⟩ = some (.int .i64 (addN m X (negN m y) : Nat)) ∧ w'.cell? ⟨q, 1, none⟩ = some (.int .i64 (addN m y (negN m Z) : Nat)) ∧ Below wr.drew.heap.size wr.drew w')
                case first =>
                  refine wp_region_held_drew (S := (fun w' => w'.cell? ⟨w.heap.size, 0, none⟩ = some (.slice (some ⟨b, off, none⟩) (cst m).length cap) ∧ Below wr.drew.heap.size wr.drew w')) (by kernel_rfl) (hkeep _ (Below.refl _ _)) (fun hHeld => ?_)
                  (refine wpAnyH_take (i := 0) (oi := ?oi228) (v := ?v228) ?hi228 (by kernel_rfl) (by kernel_rfl) (by kernel_rfl) ?hq228 ?hy228 (by assumption) ?hr228; (case hi228 => ((simp only [List.getElem?_toArray, List.getElem?_cons_zero]); exact rfl)); (case hq228 => exact fun _ _ _ h => h); (case hy228 => (refine Or.inl ⟨by rfl, ?_⟩; (intro w hSw); (try dsimp only at hSw); go_simp; (try with_reducible rfl))); (try simp only [Act.put, List.setIfInBounds_toArray, List.set_cons_zero, List.set_cons_succ])); (refine wpAnyH_take (i := 1) (oi := ?oi229) (v := ?v229) ?hi229 (by kernel_rfl) (by kernel_rfl) (by kernel_rfl) ?hq229 ?hy229 (by assumption) ?hr229; (case hi229 => ((simp only [List.getElem?_toArray, List.getElem?_cons_zero, List.getElem?_cons_succ]); exact rfl)); (case hq229 => exact fun _ _ _ h => h); (case hy229 => (refine Or.inl ⟨by rfl, ?_⟩; (intro w hSw); (try dsimp only at hSw); go_simp; (try with_reducible rfl))); (try simp only [Act.put, List.setIfInBounds_toArray, List.set_cons_zero, List.set_cons_succ])); (refine wpAnyH_take (i := 2) (oi := ?oi230) (v := ?v230) ?hi230 (by kernel_rfl) (by kernel_rfl) (by kernel_rfl) ?hq230 ?hy230 (by assumption) ?hr230; (case hi230 => ((simp only [List.getElem?_toArray, List.getElem?_cons_zero, List.getElem?_cons_succ]); exact rfl)); (case hq230 => exact fun _ _ _ h => h); (case hy230 => (refine Or.inl ⟨by rfl, ?_⟩; (intro w hSw); (try dsimp only at hSw); go_simp; (try with_reducible rfl))); (try simp only [Act.put, List.setIfInBounds_toArray, List.set_cons_zero, List.set_cons_succ]))
                  (refine wpAnyH_take (i := 4) (oi := ?oi231) (v := ?v231) ?hi231 (by kernel_rfl) (by kernel_rfl) (by kernel_rfl) ?hq231 ?hy231 (by assumption) ?hr231; (case hi231 => ((simp only [List.getElem?_toArray, List.getElem?_cons_zero, List.getElem?_cons_succ]); exact rfl)); (case hq231 => exact fun _ _ _ h => h); (case hy231 => (refine Or.inl ⟨by rfl, ?_⟩; (intro w hSw); (try dsimp only at hSw); go_simp; (try with_reducible rfl))); (try simp only [Act.put, List.setIfInBounds_toArray, List.set_cons_zero, List.set_cons_succ])); (refine wpAnyH_take (i := 5) (oi := ?oi232) (v := ?v232) ?hi232 (by kernel_rfl) (by kernel_rfl) (by kernel_rfl) ?hq232 ?hy232 (by assumption) ?hr232; (case hi232 => ((simp only [List.getElem?_toArray, List.getElem?_cons_zero, List.getElem?_cons_succ]); exact rfl)); (case hq232 => exact fun _ _ _ h => h); (case hy232 => (refine Or.inl ⟨by rfl, ?_⟩; (intro w hSw); (try dsimp only at hSw); go_simp; (try with_reducible rfl))); (try simp only [Act.put, List.setIfInBounds_toArray, List.set_cons_zero, List.set_cons_succ])); (refine wpAnyH_take (i := 6) (oi := ?oi233) (v := ?v233) ?hi233 (by kernel_rfl) (by kernel_rfl) (by kernel_rfl) ?hq233 ?hy233 (by assumption) ?hr233; (case hi233 => ((simp only [List.getElem?_toArray, List.getElem?_cons_zero, List.getElem?_cons_succ]); exact rfl)); (case hq233 => exact fun _ _ _ h => h); (case hy233 => (refine Or.inl ⟨by rfl, ?_⟩; (intro w hSw); (try dsimp only at hSw); go_simp; (try with_reducible rfl))); (try simp only [Act.put, List.setIfInBounds_toArray, List.set_cons_zero, List.set_cons_succ]))
                  refine wpAnyH_ready (rs := [3, 9]) (by kernel_rfl) (by simp) ?_
                  refine AllReadyH.cons rfl (fun K hK => ?_) (AllReadyH.cons rfl (fun K hK => ?_) AllReadyH.nil)
                  · go_simp
                    (go_at_call 150; refine (minus_any _ _ _ _ _ _ _ hm (by omega) (by omega) (hgrp _ (And.right hHeld))).mono ?_; rintro e wq ⟨rfl, hb1⟩)
                    go_wp2_with fail
                    refine hK.out _ _ ?ks (fun hHeld => ?_); (case ks => (exact hkeep _ ((And.right hHeld).trans (hb1.mono (And.right hHeld).size)))); clear hK K; (try simp only [Act.put, List.setIfInBounds_toArray, List.set_cons_zero, List.set_cons_succ])
                    clear hb1
                    refine wpAnyH_ready (rs := [7, 9]) (by kernel_rfl) (by simp) ?_
                    refine AllReadyH.cons rfl (fun K hK => ?_) (AllReadyH.cons rfl (fun K hK => ?_) AllReadyH.nil)
                    · go_simp
                      (go_at_call 150; refine (minus_any _ _ _ _ _ _ _ hm (by omega) (by omega) (hgrp _ (And.right hHeld))).mono ?_; rintro e wp ⟨rfl, hb1⟩)
                      go_wp2_with fail
                      refine hK.out _ _ ?ks (fun hHeld => ?_); (case ks => (exact hkeep _ ((And.right hHeld).trans (hb1.mono (And.right hHeld).size)))); clear hK K; (try simp only [Act.put, List.setIfInBounds_toArray, List.set_cons_zero, List.set_cons_succ])
                      clear hb1
                      have hbp := And.right hHeld
                      have hcA := cells_two wp (.int .i64 (addN m X (negN m y) : Nat)) (.int .i64 (addN m y (negN m Z) : Nat)) 84
                      (refine wpAnyH_take (i := 8) (oi := ?oi234) (v := ?v234) ?hi234 (by kernel_rfl) (by kernel_rfl) (by kernel_rfl) ?hq234 ?hy234 (by assumption) ?hr234; (case hi234 => ((simp only [List.getElem?_toArray, List.getElem?_cons_zero, List.getElem?_cons_succ]); exact rfl)); (case hq234 => exact fun _ _ _ h => h); (case hy234 => (refine Or.inl ⟨by rfl, ?_⟩; (intro w hSw); (try dsimp only at hSw); go_simp; (try with_reducible rfl))); (try simp only [Act.put, List.setIfInBounds_toArray, List.set_cons_zero, List.set_cons_succ]))
                      refine wpAnyH_ready (rs := [9]) (by kernel_rfl) (by simp) ?_; refine AllReadyH.cons rfl (fun K hK => ?_) AllReadyH.nil; go_simp
                      refine hK.out _ _ ?ks (fun hHeld => ?_); (case ks => (exact hkeep _ (hbp.alloc hbp.size _))); clear hK K; (try simp only [Act.put, List.setIfInBounds_toArray, List.set_cons_zero, List.set_cons_succ])
                      refine wpAnyH_ready (rs := [10]) (by kernel_rfl) (by simp) ?_; refine AllReadyH.cons rfl (fun K hK => ?_) AllReadyH.nil; go_simp
                      refine hK.out _ _ ?ks (fun hHeld => ?_); (case ks => (exact hkeep _ (hbp.alloc hbp.size _))); clear hK K; (try simp only [Act.put, List.setIfInBounds_toArray, List.set_cons_zero, List.set_cons_succ])
                      refine wpAnyH_done (by kernel_rfl) ?_ _
                      go_wp2_with fail
                      go_meet
                      case rel => exact ⟨wp.heap.size, rfl, rfl, hcA.1, hcA.2, hbp.alloc hbp.size _⟩
                    · have hb0 := And.right hHeld
                      have hz := cells_two wq (.int .i64 0) (.int .i64 0) 84
                      have hzf := fz_two wq (.int .i64 0) (.int .i64 0) 84
                      have hzs : wq.heap.size < (wq.alloc (.cells #[.int .i64 0, .int .i64 0] 84)).heap.size := by simp
                      go_simp
                      refine hK.out _ _ ?ks (fun hHeld => ?_); (case ks => (exact hkeep _ (hb0.alloc hb0.size _))); clear hK K; (try simp only [Act.put, List.setIfInBounds_toArray, List.set_cons_zero, List.set_cons_succ])
                      refine wpAnyH_ready (rs := [7]) (by kernel_rfl) (by simp) ?_; refine AllReadyH.cons rfl (fun K hK => ?_) AllReadyH.nil; go_simp
                      (go_at_call 150; refine (minus_any _ _ _ _ _ _ _ hm (by omega) (by omega) (hgrp _ (And.right hHeld))).mono ?_; rintro e wp ⟨rfl, hb1⟩)
                      go_wp2_with fail
                      refine hK.out _ _ ?ks (fun hHeld => ?_); (case ks => (exact hkeep _ ((And.right hHeld).trans (hb1.mono (And.right hHeld).size)))); clear hK K; (try simp only [Act.put, List.setIfInBounds_toArray, List.set_cons_zero, List.set_cons_succ])
                      have hgt := hb0.size
                      have hbp := And.right hHeld
                      have hk0 := (hb1.cell (p := ⟨wq.heap.size, 0, none⟩) hzs).trans hz.1
                      have hk1 := (hb1.cell (p := ⟨wq.heap.size, 1, none⟩) hzs).trans hz.2
                      have hf0 := (hb1.frozen (p := ⟨wq.heap.size, 0, none⟩) hzs).trans hzf.1
                      have hf1 := (hb1.frozen (p := ⟨wq.heap.size, 1, none⟩) hzs).trans hzf.2
                      clear hb1 hz hzf
                      have hbs := (hbp.setCell (p := ⟨wq.heap.size, 0, none⟩) (show wr.drew.heap.size ≤ wq.heap.size by omega) (.int .i64 (addN m X (negN m y) : Nat))).setCell (p := ⟨wq.heap.size, 1, none⟩) (show wr.drew.heap.size ≤ wq.heap.size by omega) (.int .i64 (addN m y (negN m Z) : Nat))
                      have hcB := set_two hk0 hk1 (.int .i64 (addN m X (negN m y) : Nat)) (.int .i64 (addN m y (negN m Z) : Nat))
                      (refine wpAnyH_take (i := 8) (oi := ?oi235) (v := ?v235) ?hi235 (by kernel_rfl) (by kernel_rfl) (by kernel_rfl) ?hq235 ?hy235 (by assumption) ?hr235; (case hi235 => ((simp only [List.getElem?_toArray, List.getElem?_cons_zero, List.getElem?_cons_succ]); exact rfl)); (case hq235 => exact fun _ _ _ h => h); (case hy235 => (refine Or.inl ⟨by rfl, ?_⟩; (intro w hSw); (try dsimp only at hSw); go_simp; (try with_reducible rfl))); (try simp only [Act.put, List.setIfInBounds_toArray, List.set_cons_zero, List.set_cons_succ]))
                      refine wpAnyH_ready (rs := [10]) (by kernel_rfl) (by simp) ?_; refine AllReadyH.cons rfl (fun K hK => ?_) AllReadyH.nil; go_simp
                      refine hK.out _ _ ?ks (fun hHeld => ?_); (case ks => (exact hkeep _ hbs)); clear hK K; (try simp only [Act.put, List.setIfInBounds_toArray, List.set_cons_zero, List.set_cons_succ])
                      refine wpAnyH_done (by kernel_rfl) ?_ _
                      go_wp2_with fail
                      go_meet
                      case rel => exact ⟨wq.heap.size, rfl, rfl, hcB.1, hcB.2, hbs⟩
                  · have hb0 := And.right hHeld
                    have hz := cells_two wr.drew (.int .i64 0) (.int .i64 0) 84
                    have hzf := fz_two wr.drew (.int .i64 0) (.int .i64 0) 84
                    have hzs : wr.drew.heap.size < (wr.drew.alloc (.cells #[.int .i64 0, .int .i64 0] 84)).heap.size := by simp
                    go_simp
                    refine hK.out _ _ ?ks (fun hHeld => ?_); (case ks => (exact hkeep _ (hb0.alloc hb0.size _))); clear hK K; (try simp only [Act.put, List.setIfInBounds_toArray, List.set_cons_zero, List.set_cons_succ])
                    refine wpAnyH_ready (rs := [3]) (by kernel_rfl) (by simp) ?_; refine AllReadyH.cons rfl (fun K hK => ?_) AllReadyH.nil; go_simp
                    (go_at_call 150; refine (minus_any _ _ _ _ _ _ _ hm (by omega) (by omega) (hgrp _ (And.right hHeld))).mono ?_; rintro e wq ⟨rfl, hb1⟩)
                    go_wp2_with fail
                    refine hK.out _ _ ?ks (fun hHeld => ?_); (case ks => (exact hkeep _ ((And.right hHeld).trans (hb1.mono (And.right hHeld).size)))); clear hK K; (try simp only [Act.put, List.setIfInBounds_toArray, List.set_cons_zero, List.set_cons_succ])
                    have hy0 := (hb1.cell (p := ⟨wr.drew.heap.size, 0, none⟩) hzs).trans hz.1
                    have hy1 := (hb1.cell (p := ⟨wr.drew.heap.size, 1, none⟩) hzs).trans hz.2
                    have hyf0 := (hb1.frozen (p := ⟨wr.drew.heap.size, 0, none⟩) hzs).trans hzf.1
                    have hyf1 := (hb1.frozen (p := ⟨wr.drew.heap.size, 1, none⟩) hzs).trans hzf.2
                    have hys := Nat.lt_of_lt_of_le hzs hb1.size
                    clear hb1 hz hzf hzs
                    refine wpAnyH_ready (rs := [7]) (by kernel_rfl) (by simp) ?_; refine AllReadyH.cons rfl (fun K hK => ?_) AllReadyH.nil; go_simp
                    (go_at_call 150; refine (minus_any _ _ _ _ _ _ _ hm (by omega) (by omega) (hgrp _ (And.right hHeld))).mono ?_; rintro e wp ⟨rfl, hb1⟩)
                    go_wp2_with fail
                    refine hK.out _ _ ?ks (fun hHeld => ?_); (case ks => (exact hkeep _ ((And.right hHeld).trans (hb1.mono (And.right hHeld).size)))); clear hK K; (try simp only [Act.put, List.setIfInBounds_toArray, List.set_cons_zero, List.set_cons_succ])
                    have hgt := hb0.size
                    have hbp := And.right hHeld
                    have hk0 := (hb1.cell (p := ⟨wr.heap.size, 0, none⟩) hys).trans hy0
                    have hk1 := (hb1.cell (p := ⟨wr.heap.size, 1, none⟩) hys).trans hy1
                    have hf0 := (hb1.frozen (p := ⟨wr.heap.size, 0, none⟩) hys).trans hyf0
                    have hf1 := (hb1.frozen (p := ⟨wr.heap.size, 1, none⟩) hys).trans hyf1
                    clear hb1 hy0 hy1 hyf0 hyf1
                    have hbs := (hbp.setCell (p := ⟨wr.heap.size, 0, none⟩) (show wr.drew.heap.size ≤ wr.heap.size by exact Nat.le_refl _) (.int .i64 (addN m X (negN m y) : Nat))).setCell (p := ⟨wr.heap.size, 1, none⟩) (show wr.drew.heap.size ≤ wr.heap.size by exact Nat.le_refl _) (.int .i64 (addN m y (negN m Z) : Nat))
                    have hcB := set_two hk0 hk1 (.int .i64 (addN m X (negN m y) : Nat)) (.int .i64 (addN m y (negN m Z) : Nat))
                    (refine wpAnyH_take (i := 8) (oi := ?oi236) (v := ?v236) ?hi236 (by kernel_rfl) (by kernel_rfl) (by kernel_rfl) ?hq236 ?hy236 (by assumption) ?hr236; (case hi236 => ((simp only [List.getElem?_toArray, List.getElem?_cons_zero, List.getElem?_cons_succ]); exact rfl)); (case hq236 => exact fun _ _ _ h => h); (case hy236 => (refine Or.inl ⟨by rfl, ?_⟩; (intro w hSw); (try dsimp only at hSw); go_simp; (try with_reducible rfl))); (try simp only [Act.put, List.setIfInBounds_toArray, List.set_cons_zero, List.set_cons_succ]))
                    refine wpAnyH_ready (rs := [10]) (by kernel_rfl) (by simp) ?_; refine AllReadyH.cons rfl (fun K hK => ?_) AllReadyH.nil; go_simp
                    refine hK.out _ _ ?ks (fun hHeld => ?_); (case ks => (exact hkeep _ hbs)); clear hK K; (try simp only [Act.put, List.setIfInBounds_toArray, List.set_cons_zero, List.set_cons_succ])
                    refine wpAnyH_done (by kernel_rfl) ?_ _
                    go_wp2_with fail
                    go_meet
                    case rel => exact ⟨wr.heap.size, rfl, rfl, hcB.1, hcB.2, hbs⟩
                case rest =>
                  obtain ⟨q, rfl, rfl, hq0, hq1, hbw⟩ := hcut
                  have hgr := hgk.out.step hbw
                  clear hbw hgk hgrp hkeep
                  generalize addN m X (negN m y) = uu at *
                  generalize addN m y (negN m Z) = vv at *
                  have hown := hgr.gm.own
                  have hkey := tri_key hu24 hv24
                  have hlL := hlen.out k
                  have hz0 := hid (fun c hat => tri_none (hbdd.out k) ⟨hu24, hv24⟩ hne1.out (c := c) hat)
                  go_wp2_with (first | (at_lookup; refine wpList_lookup_own_int _ rfl _ _ 83 rfl 84 3 .i64 tri_keyed Try.underlying83 Try.underlying3 (tri_zero _) w1.heap.size _ _ rfl hown _ _ rfl hkey ?_; intro c hat hwc; have hc0 := hz0.out c hat; clear hat hwc) | (at_mapUpdate; refine wpList_mapUpdate_own _ rfl _ _ _ 83 rfl 84 3 tri_keyed Try.underlying83 _ w1.heap.size _ _ rfl hown (by unfold maxLen; omega) _ _ _ rfl rfl hkey _ [] (plainElem_int Try.underlying3 (by decide)) ?_; intro wm hown2 hgrow2))
                  have hp := hid (hgr.push hown2 hgrow2)
                  clear hown hown2 hgrow2 hgr hkey hz0
                  go_roundw
                  case rel => first | exact ⟨k + 1, by go_num, by omega, by rw [hst1.out]; exact hp.out⟩ | ((repeat apply Exists.intro); exact ⟨⟨k + 1, by go_num, by omega, by rw [hst1.out]; exact hp.out⟩, rfl⟩)
                  case measure => simp [intOf]; omega
              · have hE : Hid (prL m A B C i k = prL m A B C (i + 1) 0) := by
                  have e : k = (mem B).length := by rw [← cst_length]; omega
                  unfold Hid; rw [hnx.out, e]
                go_wp2
                go_roundw
                case rel => first | exact ⟨i + 1, by go_num, by omega, by rw [← hE.out]; exact hgr.home⟩ | ((repeat apply Exists.intro); exact ⟨⟨i + 1, by go_num, by omega, by rw [← hE.out]; exact hgr.home⟩, rfl⟩)
                case measure => simp [intOf]; omega
          · have hin' : C.testBit Z = false := by simpa using hin
            rw [hin']
            have hno2 : Hid (∀ q, q < j + 1 → C.testBit (addN m ((mem A).getD q 0) (negN m d)) = false) := fun q hq => by
              rcases (by omega : q < j ∨ q = j) with h | rfl
              · exact hno.out q h
              · rw [hX.out, hZ.out]; exact hin'
            clear hin hin' hno
            go_wp2
            go_roundw
            case rel => exact ⟨j + 1, by go_num, by omega, hno2, hgr5⟩
            case measure => simp [intOf]; omega
      · have hE : Hid (prL m A B C i 0 = triL m A B C) := by
          have e : i = (mem (diffN m A C)).length := by rw [← cst_length]; omega
          unfold Hid; rw [e, pr_end]
        have hbl := hst2.below.trans (hgr.gm.below.mono hst2.below.size)
        have hown := hgr.gm.own
        rw [hE.out] at hown
        go_wp2_with (at_len; refine wpList_len_own _ rfl _ 83 rfl 84 3 Try.underlying83 _ w1.heap.size _ _ rfl hown ?_)
        rw [hsz.out]
        go_wp2
        go_ret2
        exact ⟨ret_ib (by rw [hr.out]) (by rw [hok.out]), hbl⟩
  · have h3' : three l x y z = false := by simpa using h3
    have hr := hid (triA_no h3')
    have hno := hid h3'
    clear h3
    go_enter Try.func56, Try.ntmps56
    go_wp2_with fail
    refine (areSets_three _ _ _ _ _ _ _ _ _ _ hl hst1.grp hg2).mono ?_; rintro e w1 ⟨rfl, hb1⟩; rw [h3']; have hst2 := hst1.step hb1
    go_wp2
    go_ret2
    exact ⟨ret_ib (by rw [hr.out]; rfl) (by rw [hno.out]), hst2.below⟩
end Go.Proofs.Ytpflnmcecnbilaa
