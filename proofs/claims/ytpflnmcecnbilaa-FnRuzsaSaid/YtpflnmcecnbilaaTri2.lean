/-
  Contracts: the map of Ruzsa's triangle, as the reference makes it.
-/
import Derived.Test.YtpflnmcecnbilaaTri
import Derived.Test.YtpflnmcecnbilaaDefect
import Derived.Test.YtpflnmcecnbilaaCover
import Derived.Test.YtpflnmcecnbilaaCnt
import Derived.Deep.RegionHeld3
namespace Go.Proofs.Ytpflnmcecnbilaa
open Go.RowKit

def triA (l : List Int) (a b c : Int) : Nat := if three l a b c then card (diffN (toN l) a.toNat c.toNat) * card b.toNat else 0
theorem triA_yes {m : List Nat} {A B C : Nat} (h : three (cst m) A B C = true) : triA (cst m) A B C = card (diffN m A C) * card B := by
  unfold triA; rw [h, toN_cst, Int.toNat_natCast, Int.toNat_natCast, Int.toNat_natCast]; rfl
theorem triA_no {l : List Int} {a b c : Int} (h : three l a b c = false) : triA l a b c = 0 := by unfold triA; rw [h]; rfl
theorem GL.hold {w w3 wr : World} {b off cap g k y : Nat} {l L : List Int} {M : List Nat} {v : Value} (hst : St w b off cap l w3) (hd : GrpAt w3 g 0 (cst M)) (hg : Growing w3 L v wr) (hk : k < (cst M).length) (hy : Hid (M.getD k 0 = y)) :
    wr.cell? ⟨w.heap.size, 0, none⟩ = some (.slice (some ⟨b, off, none⟩) l.length cap) ∧ wr.cell? ⟨g, k, none⟩ = some (.int .i64 (y : Int)) ∧ Growing w3 L v wr :=
  ⟨(hst.step hg.below).box, by rw [(hd.below hg.below).nat0 k hk, hy.out], hg⟩
theorem GL.grp {w w3 wr : World} {b off cap : Nat} {l L : List Int} {v : Value} {X Y : Prop} (hst : St w b off cap l w3) (hs : X ∧ Y ∧ Growing w3 L v wr) : GrpAt wr b off l := (hst.step hs.2.2.below).grp
theorem GL.keep {w w3 wr w1 : World} {b off cap g k y : Nat} {l L : List Int} {M : List Nat} {v : Value} {X Y : Prop} (hst : St w b off cap l w3) (hd : GrpAt w3 g 0 (cst M)) (hk : k < (cst M).length) (hy : Hid (M.getD k 0 = y)) (hs : X ∧ Y ∧ Growing w3 L v wr) (hb : Below wr.heap.size wr w1) :
    w1.cell? ⟨w.heap.size, 0, none⟩ = some (.slice (some ⟨b, off, none⟩) l.length cap) ∧ w1.cell? ⟨g, k, none⟩ = some (.int .i64 (y : Int)) ∧ Growing w3 L v w1 := GL.hold hst hd (hs.2.2.step hb) hk hy
theorem GL.drew {w3 wr : World} {L : List Int} {v : Value} (hg : Growing w3 L v wr) : Growing w3 L v wr.drew := hg.step (Below.refl _ _).drew
set_option maxRecDepth 4000 in
set_option maxHeartbeats 1600000 in
theorem sTriangleMap_any (b off cap : Nat) (l : List Int) (x y z : Int) (w : World) (hl : l.length ≤ 1099511627776) (hg : GrpAt w b off l) :
    Calls Try.prog 54 #[.agg #[.slice (some ⟨b, off, none⟩) l.length cap], .int .i64 x, .int .i64 y, .int .i64 z] w fun e w' => e = .returned (.tuple #[.int .i64 (triA l x y z : Nat), .bool (three l x y z)]) ∧ Below w.heap.size w w' := by
  obtain ⟨i0, hi, hz0, hz1, hz2⟩ := info_parts info_int
  have hst := St.init cap 26 hg
  clear hg
  by_cases h3 : three l x y z = true
  · have h30 := three_iff.1 h3
    obtain ⟨y1, y2, y3⟩ := three_yes h3
    obtain ⟨m, A, B, C, hm, rfl, rfl, rfl, rfl, hA, hB, hC⟩ := h30
    have hr := hid (triA_yes h3)
    have hok := hid h3
    have hA' := Nat.lt_of_lt_of_le hA hm.pow_le
    have hB' := Nat.lt_of_lt_of_le hB hm.pow_le
    have hC' := Nat.lt_of_lt_of_le hC hm.pow_le
    have hD' : diffN m A C < 16777216 := sumN_lt hm A (oppN m C)
    have hspec : Hid (∀ d ∈ mem (diffN m A C), 0 < (mem (A &&& sumN m C (pw d))).length ∧ txN m A C d ∈ mem A ∧ tzN m A C d ∈ mem C) := fun d hd => tx_spec hm hA hC hd
    have hnew : Hid (∀ i k, i < (mem (diffN m A C)).length → k < (mem B).length → ∀ j, j < (cdL m A B C i k).length → (cdL m A B C i k).getD j 0 ≠ codeN (tpN m A C ((mem (diffN m A C)).getD i 0) ((mem B).getD k 0))) := fun i k hi hk => cd_new hm hA hB hC hi hk
    have hend : Hid ((cdL m A B C (mem (diffN m A C)).length 0).length = card (diffN m A C) * card B) := cd_end m A B C
    have hDl : (cst (mem (diffN m A C))).length ≤ 24 := by rw [cst_length]; exact card_le _
    have hYl : (cst (mem B)).length ≤ 24 := by rw [cst_length]; exact card_le _
    clear h3
    go_enter Try.func54, Try.ntmps54
    go_wp2_with (first | (go_at_call 64; refine (sIsSet_any _ _ _ _ _ _ hl (St.grp (by assumption))).mono ?_; rintro e wN ⟨rfl, hbN⟩; have hstN := St.step (by assumption) hbN; have hboxN := hstN.box; clear hbN) | (go_at_call 63; refine (sDifference_yes _ _ _ _ _ _ _ hm (by assumption) (by assumption) (St.grp (by assumption))).mono ?_; rintro e wN ⟨rfl, hbN⟩; have hstN := St.step (by assumption) hbN; have hboxN := hstN.box; clear hbN))
    have hst2 : St w b off cap (cst m) wN := by assumption
    clear hst hboxN
    refine (l3List_any _ _ hD').mono ?_; rintro e w2 ⟨gD, cD, rfl, hmD⟩
    have hst3 := hst2.step hmD.below
    have hD3 := hmD.grp
    clear hmD hst2
    go_wp2_with fail
    refine (l3List_any _ _ hB').mono ?_; rintro e w3 ⟨gY, cY, rfl, hmY⟩
    have hst4 := hst3.step hmY.below
    have hD4 := hD3.below hmY.below
    have hY4 := hmY.grp
    clear hst3 hD3 hmY
    have hgr0 := Growing.start' (w := w3) #[] rfl
    go_wp2
    go_loopw [12, 13] (fun o i wr => ∃ k : Nat, i = .int .i64 k ∧ k ≤ (cst (mem (diffN m A C))).length ∧ Growing w3 (cst (cdL m A B C k 0)) o wr) (fun _ i _ => (cst (mem (diffN m A C))).length - (intOf i).toNat)
    case atStart => exact ⟨0, rfl, by omega, hgr0⟩
    case round =>
      clear hgr0
      rename_i wr
      obtain ⟨i, rfl, hi1, hgr⟩ := hrel
      obtain ⟨gP, cP, rfl, hmP⟩ := hgr.form
      by_cases hlt : i < (cst (mem (diffN m A C))).length
      · have hiN : i < (mem (diffN m A C)).length := by rw [cst_length] at hlt; exact hlt
        obtain ⟨d, hd⟩ : ∃ d, Hid ((mem (diffN m A C)).getD i 0 = d) := ⟨_, rfl⟩
        have hdm : d ∈ mem (diffN m A C) := by rw [← hd.out]; exact getD_mem _ 0 i hiN
        have hd24 : d < 24 := mem_lt hdm
        obtain ⟨hs1, hs2, hs3⟩ := hspec.out d hdm
        obtain ⟨X, hX⟩ : ∃ X, Hid (txN m A C d = X) := ⟨_, rfl⟩
        have hx24 : X < 24 := by rw [← hX.out]; exact mem_lt hs2
        have hS := sumN_lt hm C (pw d)
        have hnd := hm.neg24 d
        have hz24 := Nat.lt_of_lt_of_le (hm.add_lt X (negN m d)) hm.ord
        have hstp : Hid (∀ k, k < (mem B).length → cdL m A B C i (k + 1) = cdL m A B C i k ++ [codeN (tpN m A C d ((mem B).getD k 0))]) := fun k hk => by rw [← hd.out]; exact cd_step hk
        have hnx : Hid (cdL m A B C (i + 1) 0 = cdL m A B C i (mem B).length) := cd_next hiN
        have hln : Hid (∀ k, (cdL m A B C i k).length ≤ 576) := fun k => cd_len m A B C hiN
        have hne : Hid (∀ k, k < (mem B).length → ∀ j, j < (cdL m A B C i k).length → (cdL m A B C i k).getD j 0 ≠ codeN (tpN m A C d ((mem B).getD k 0))) := fun k hk => by rw [← hd.out]; exact hnew.out i k hiN hk
        have hshl := shl1 (x := d) (by omega)
        have hshk := shl1k (x := d) (by omega)
        have hpl := pw_le (x := d) (by omega)
        have hplt : pw d < 16777216 := by rw [pw_eq]; exact Nat.pow_lt_pow_right (a := 2) (n := 24) (by omega) hd24
        have hand := bits_and_nat A (sumN m C (pw d)) (by omega) (by omega)
        have handl : A &&& sumN m C (pw d) < 16777216 := Nat.lt_of_le_of_lt Nat.and_le_left hA'
        have h0 := GL.hold hst4 hD4 (GL.drew hgr) hlt hd
        clear hs2 hs3 hdm hspec hnew hgr hmP
        go_wp2
        refine wp_region_held_drew (S := fun w' => w'.cell? ⟨w.heap.size, 0, none⟩ = some (.slice (some ⟨b, off, none⟩) (cst m).length cap) ∧ w'.cell? ⟨gD, i, none⟩ = some (.int .i64 (d : Int)) ∧ Growing w3 (cst (cdL m A B C i 0)) (.slice (some ⟨gP, 0, none⟩) (cst (cdL m A B C i 0)).length cP) w') (by kernel_rfl) h0 (fun hHeld => ?_)
        (refine wpAnyH_take (i := 0) (oi := ?oi219) (v := ?v219) ?hi219 (by kernel_rfl) (by kernel_rfl) (by kernel_rfl) ?hq219 ?hy219 (by assumption) ?hr219; (case hi219 => ((simp only [List.getElem?_toArray, List.getElem?_cons_zero]); exact rfl)); (case hq219 => exact fun _ _ _ h => h); (case hy219 => (refine Or.inl ⟨by rfl, ?_⟩; (intro w hSw); (try dsimp only at hSw); go_simp; (try with_reducible rfl))); (try simp only [Act.put, List.setIfInBounds_toArray, List.set_cons_zero, List.set_cons_succ])); (refine wpAnyH_take (i := 1) (oi := ?oi220) (v := ?v220) ?hi220 (by kernel_rfl) (by kernel_rfl) (by kernel_rfl) ?hq220 ?hy220 (by assumption) ?hr220; (case hi220 => ((simp only [List.getElem?_toArray, List.getElem?_cons_zero, List.getElem?_cons_succ]); exact rfl)); (case hq220 => exact fun _ _ _ h => h); (case hy220 => (refine Or.inl ⟨by rfl, ?_⟩; (intro w hSw); (try dsimp only at hSw); go_simp; (try with_reducible rfl))); (try simp only [Act.put, List.setIfInBounds_toArray, List.set_cons_zero, List.set_cons_succ])); (refine wpAnyH_take (i := 2) (oi := ?oi221) (v := ?v221) ?hi221 (by kernel_rfl) (by kernel_rfl) (by kernel_rfl) ?hq221 ?hy221 (by assumption) ?hr221; (case hi221 => ((simp only [List.getElem?_toArray, List.getElem?_cons_zero, List.getElem?_cons_succ]); exact rfl)); (case hq221 => exact fun _ _ _ h => h); (case hy221 => (refine Or.inl ⟨by rfl, ?_⟩; (intro w hSw); (try dsimp only at hSw); go_simp; (try with_reducible rfl))); (try simp only [Act.put, List.setIfInBounds_toArray, List.set_cons_zero, List.set_cons_succ])); (refine wpAnyH_take (i := 3) (oi := ?oi222) (v := ?v222) ?hi222 (by kernel_rfl) (by kernel_rfl) (by kernel_rfl) ?hq222 ?hy222 (by assumption) ?hr222; (case hi222 => ((simp only [List.getElem?_toArray, List.getElem?_cons_zero, List.getElem?_cons_succ]); exact rfl)); (case hq222 => exact fun _ _ _ h => h); (case hy222 => (refine Or.inl ⟨by rfl, ?_⟩; (intro w hSw); (try dsimp only at hSw); go_simp; (try with_reducible rfl))); (try simp only [Act.put, List.setIfInBounds_toArray, List.set_cons_zero, List.set_cons_succ])); (refine wpAnyH_take (i := 4) (oi := ?oi223) (v := ?v223) ?hi223 (by kernel_rfl) (by kernel_rfl) (by kernel_rfl) ?hq223 ?hy223 (by assumption) ?hr223; (case hi223 => ((simp only [List.getElem?_toArray, List.getElem?_cons_zero, List.getElem?_cons_succ]); exact rfl)); (case hq223 => exact fun _ _ _ h => h); (case hy223 => (refine Or.inl ⟨by rfl, ?_⟩; (intro w hSw); (try dsimp only at hSw); go_simp; (try with_reducible rfl))); (try simp only [Act.put, List.setIfInBounds_toArray, List.set_cons_zero, List.set_cons_succ])); (refine wpAnyH_take (i := 5) (oi := ?oi224) (v := ?v224) ?hi224 (by kernel_rfl) (by kernel_rfl) (by kernel_rfl) ?hq224 ?hy224 (by assumption) ?hr224; (case hi224 => ((simp only [List.getElem?_toArray, List.getElem?_cons_zero, List.getElem?_cons_succ]); exact rfl)); (case hq224 => exact fun _ _ _ h => h); (case hy224 => (refine Or.inl ⟨by rfl, ?_⟩; (intro w hSw); (try dsimp only at hSw); go_simp; (try with_reducible rfl))); (try simp only [Act.put, List.setIfInBounds_toArray, List.set_cons_zero, List.set_cons_succ])); (refine wpAnyH_take (i := 6) (oi := ?oi225) (v := ?v225) ?hi225 (by kernel_rfl) (by kernel_rfl) (by kernel_rfl) ?hq225 ?hy225 (by assumption) ?hr225; (case hi225 => ((simp only [List.getElem?_toArray, List.getElem?_cons_zero, List.getElem?_cons_succ]); exact rfl)); (case hq225 => exact fun _ _ _ h => h); (case hy225 => (refine Or.inl ⟨by rfl, ?_⟩; (intro w hSw); (try dsimp only at hSw); go_simp; (try with_reducible rfl))); (try simp only [Act.put, List.setIfInBounds_toArray, List.set_cons_zero, List.set_cons_succ])); (refine wpAnyH_take (i := 7) (oi := ?oi226) (v := ?v226) ?hi226 (by kernel_rfl) (by kernel_rfl) (by kernel_rfl) ?hq226 ?hy226 (by assumption) ?hr226; (case hi226 => ((simp only [List.getElem?_toArray, List.getElem?_cons_zero, List.getElem?_cons_succ]); exact rfl)); (case hq226 => exact fun _ _ _ h => h); (case hy226 => (refine Or.inl ⟨by rfl, ?_⟩; (intro w hSw); (try dsimp only at hSw); go_simp; (try with_reducible rfl))); (try simp only [Act.put, List.setIfInBounds_toArray, List.set_cons_zero, List.set_cons_succ]))
        refine wpAnyH_ready (rs := [8]) (by kernel_rfl) (by simp) ?_; refine AllReadyH.cons rfl (fun K hK => ?_) AllReadyH.nil; go_simp
        (go_at_call 117; refine (l4Sum_any _ _ _ _ _ _ _ hm hC' hplt (GL.grp hst4 hHeld)).mono ?_; rintro e w5 ⟨rfl, hb5⟩)
        go_wp2_with fail
        refine hK.out _ _ ?ks (fun hHeld => ?_); (case ks => (exact GL.keep hst4 hD4 hlt hd hHeld hb5)); clear hK K; (try simp only [Act.put, List.setIfInBounds_toArray, List.set_cons_zero, List.set_cons_succ])
        (refine wpAnyH_take (i := 9) (oi := ?oi227) (v := ?v227) ?hi227 (by kernel_rfl) (by kernel_rfl) (by kernel_rfl) ?hq227 ?hy227 (by assumption) ?hr227; (case hi227 => ((simp only [List.getElem?_toArray, List.getElem?_cons_zero, List.getElem?_cons_succ]); exact rfl)); (case hq227 => exact fun _ _ _ h => h); (case hy227 => (refine Or.inl ⟨by rfl, ?_⟩; (intro w hSw); (try dsimp only at hSw); go_simp; (try with_reducible rfl))); (try simp only [Act.put, List.setIfInBounds_toArray, List.set_cons_zero, List.set_cons_succ]))
        refine wpAnyH_ready (rs := [10]) (by kernel_rfl) (by simp) ?_; refine AllReadyH.cons rfl (fun K hK => ?_) AllReadyH.nil; go_simp
        (go_at_call 135; refine (l3List_any _ _ handl).mono ?_; rintro e w6 ⟨gX, cX, rfl, hmX⟩)
        go_wp2_with fail
        refine hK.out _ _ ?ks (fun hHeld => ?_); (case ks => (exact GL.keep hst4 hD4 hlt hd (by assumption) hmX.below)); clear hK K; (try simp only [Act.put, List.setIfInBounds_toArray, List.set_cons_zero, List.set_cons_succ])
        have hlX : 0 < (cst (mem (A &&& sumN m C (pw d)))).length := by rw [cst_length]; exact hs1
        have hcX : w6.cell? ⟨gX, 0, none⟩ = some (.int .i64 ((X : Nat) : Int)) := by rw [← hX.out]; exact hmX.grp.nat0 0 hlX
        clear hmX
        refine wpAnyH_ready (rs := [11]) (by kernel_rfl) (by simp) ?_; refine AllReadyH.cons rfl (fun K hK => ?_) AllReadyH.nil; go_simp
        refine hK.out _ _ ?ks (fun hHeld => ?_); (case ks => (assumption)); clear hK K; (try simp only [Act.put, List.setIfInBounds_toArray, List.set_cons_zero, List.set_cons_succ])
        refine wpAnyH_ready (rs := [12]) (by kernel_rfl) (by simp) ?_; refine AllReadyH.cons rfl (fun K hK => ?_) AllReadyH.nil; go_simp
        refine hK.out _ _ ?ks (fun hHeld => ?_); (case ks => (assumption)); clear hK K; (try simp only [Act.put, List.setIfInBounds_toArray, List.set_cons_zero, List.set_cons_succ])
        refine wpAnyH_ready (rs := [13]) (by kernel_rfl) (by simp) ?_; refine AllReadyH.cons rfl (fun K hK => ?_) AllReadyH.nil; go_simp
        refine hK.out _ _ ?ks (fun hHeld => ?_); (case ks => (assumption)); clear hK K; (try simp only [Act.put, List.setIfInBounds_toArray, List.set_cons_zero, List.set_cons_succ])
        refine wpAnyH_done (by kernel_rfl) ?_ _
        have hgr6 : Growing w3 (cst (cdL m A B C i 0)) (.slice (some ⟨gP, 0, none⟩) (cst (cdL m A B C i 0)).length cP) w6 := And.right (And.right (by assumption))
        have h1 := GL.hold hst4 hD4 (GL.drew hgr6) hlt hd
        clear hcX hlX hgr6 hand handl hshl hshk h0 hS hs1 hb5
        go_wp2
        go_region_held3 (fun w' => w'.cell? ⟨w.heap.size, 0, none⟩ = some (.slice (some ⟨b, off, none⟩) (cst m).length cap) ∧ w'.cell? ⟨gD, i, none⟩ = some (.int .i64 (d : Int)) ∧ Growing w3 (cst (cdL m A B C i 0)) (.slice (some ⟨gP, 0, none⟩) (cst (cdL m A B C i 0)).length cP) w') (first | exact h1 | exact GL.keep hst4 hD4 hlt hd (by assumption) hb1 | assumption)
          (first | (go_at_call 140; refine (l2Negate_any _ _ _ _ _ _ hm (by omega) (GL.grp hst4 (by assumption))).mono ?_; rintro e w1 ⟨rfl, hb1⟩) | (go_at_call 146; refine (l2Add_any _ _ _ _ _ _ _ hm (by omega) (by omega) (GL.grp hst4 (by assumption))).mono ?_; rintro e w1 ⟨rfl, hb1⟩))
        rename_i hAll
        have hgr7 : Growing w3 (cst (cdL m A B C i 0)) (.slice (some ⟨gP, 0, none⟩) (cst (cdL m A B C i 0)).length cP) w1 := hAll.2.2
        clear hAll
        generalize hZ' : addN m X (negN m d) = Z at *
        have hZ : Hid (tzN m A C d = Z) := by unfold Hid tzN; rw [hX.out, hZ']
        clear hZ'
        go_wp2
        go_loopw [12, 16] (fun o j wr => ∃ k : Nat, j = .int .i64 k ∧ k ≤ (cst (mem B)).length ∧ Growing w3 (cst (cdL m A B C i k)) o wr) (fun _ j _ => (cst (mem B)).length - (intOf j).toNat)
        case atStart => exact ⟨0, rfl, by omega, hgr7⟩
        case round =>
          clear hgr7 h1
          obtain ⟨k, rfl, hk1, hgq⟩ := hrel
          obtain ⟨gQ, cQ, rfl, hmQ⟩ := hgq.form
          by_cases hlk : k < (cst (mem B)).length
          · have hkN : k < (mem B).length := by rw [cst_length] at hlk; exact hlk
            obtain ⟨y, hy⟩ : ∃ y, Hid ((mem B).getD k 0 = y) := ⟨_, rfl⟩
            have hy24 : y < 24 := by rw [← hy.out]; exact mem_getD_lt' hkN
            have hny := hm.neg24 y
            have hnz := hm.neg24 Z
            have hu24 := Nat.lt_of_lt_of_le (hm.add_lt X (negN m y)) hm.ord
            have hv24 := Nat.lt_of_lt_of_le (hm.add_lt y (negN m Z)) hm.ord
            have hcode : Hid (codeN (tpN m A C d y) = addN m X (negN m y) * 24 + addN m y (negN m Z)) := by unfold Hid codeN tpN; rw [hX.out, hZ.out]
            have hne1 := hid (hne.out k hkN)
            have hst1 := hid (hstp.out k hkN)
            rw [hy.out, hcode.out] at hne1 hst1
            have h2 := GL.hold hst4 hY4 (GL.drew hgq) hlk hy
            clear hmQ hgq hstp hne hcode
            go_wp2
            go_region_held3 (fun w' => w'.cell? ⟨w.heap.size, 0, none⟩ = some (.slice (some ⟨b, off, none⟩) (cst m).length cap) ∧ w'.cell? ⟨gY, k, none⟩ = some (.int .i64 (y : Int)) ∧ Growing w3 (cst (cdL m A B C i k)) (.slice (some ⟨gQ, 0, none⟩) (cst (cdL m A B C i k)).length cQ) w') (first | exact h2 | exact GL.keep hst4 hY4 hlk hy (by assumption) hb1 | assumption)
              (first | (go_at_call 140; refine (l2Negate_any _ _ _ _ _ _ hm (by omega) (GL.grp hst4 (by assumption))).mono ?_; rintro e w1 ⟨rfl, hb1⟩) | (go_at_call 146; refine (l2Add_any _ _ _ _ _ _ _ hm (by omega) (by omega) (GL.grp hst4 (by assumption))).mono ?_; rintro e w1 ⟨rfl, hb1⟩))
            rename_i hAll
            have hgq2 : Growing w3 (cst (cdL m A B C i k)) (.slice (some ⟨gQ, 0, none⟩) (cst (cdL m A B C i k)).length cQ) w1 := hAll.2.2
            clear hAll
            have h3 := GL.hold hst4 hY4 (GL.drew hgq2) hlk hy
            clear hgq2 h2
            generalize addN m X (negN m y) = U at *
            go_wp2
            go_region_held3 (fun w' => w'.cell? ⟨w.heap.size, 0, none⟩ = some (.slice (some ⟨b, off, none⟩) (cst m).length cap) ∧ w'.cell? ⟨gY, k, none⟩ = some (.int .i64 (y : Int)) ∧ Growing w3 (cst (cdL m A B C i k)) (.slice (some ⟨gQ, 0, none⟩) (cst (cdL m A B C i k)).length cQ) w') (first | exact h3 | exact GL.keep hst4 hY4 hlk hy (by assumption) hb1 | assumption)
              (first | (go_at_call 140; refine (l2Negate_any _ _ _ _ _ _ hm (by omega) (GL.grp hst4 (by assumption))).mono ?_; rintro e w1 ⟨rfl, hb1⟩) | (go_at_call 146; refine (l2Add_any _ _ _ _ _ _ _ hm (by omega) (by omega) (GL.grp hst4 (by assumption))).mono ?_; rintro e w1 ⟨rfl, hb1⟩))
            rename_i hAll
            have hgq3 : Growing w3 (cst (cdL m A B C i k)) (.slice (some ⟨gQ, 0, none⟩) (cst (cdL m A B C i k)).length cQ) w1 := hAll.2.2
            clear hAll h3
            generalize addN m y (negN m Z) = V at *
            have hwu : IntKind.i64.wrap ((U : Int) * 24) = (U : Int) * 24 := by rw [IntKind.wrap_i64]; omega
            have hwv : IntKind.i64.wrap ((U : Int) * 24 + (V : Int)) = ((U * 24 + V : Nat) : Int) := by rw [IntKind.wrap_i64]; omega
            have hN : U * 24 + V < 1000 := by omega
            generalize U * 24 + V = N at *
            go_wp2
            clear hwu hwv
            have hlP := hid (hln.out k)
            have hlP2 : (cst (cdL m A B C i k)).length ≤ 576 := by rw [cst_length]; exact hlP.out
            have hn1 : Hid (cst (cdL m A B C i (k + 1)) = cst (cdL m A B C i k) ++ [((N : Nat) : Int)]) := by unfold Hid; rw [hst1.out, cst_snoc]
            obtain ⟨P, hP⟩ : ∃ P, Hid (cdL m A B C i k = P) := ⟨_, rfl⟩
            rw [hP.out] at hne1 hn1 hgq3 hlP2
            rw [hP.out]
            clear hlP hst1
            have hcel := hid hgq3.form
            go_loop [20] (fun j => ∃ q : Nat, j = .int .i64 q ∧ q ≤ (cst P).length) (fun j => (cst P).length - (intOf j).toNat)
            case atStart => exact ⟨0, rfl, by omega⟩
            case round =>
              obtain ⟨j, rfl, hj1⟩ := hrel
              by_cases hlj : j < (cst P).length
              · have hjN : j < P.length := by rw [cst_length] at hlj; exact hlj
                obtain ⟨g', c', he, hmd⟩ := hcel.out
                have hgg : gQ = g' := by simp at he; exact he.1
                subst hgg
                have hck := hmd.grp.nat0 j hlj
                have hnj := hne1.out j hjN
                have hnb : (((P.getD j 0 : Nat) : Int) == ((N : Nat) : Int)) = false := by rw [beq_eq_false_iff_ne]; omega
                clear hmd he
                generalize P.getD j 0 = q at *
                go_wp2
                go_round
                case rel => exact ⟨j + 1, by go_num, by omega⟩
                case measure => simp [intOf]; omega
              · trace "APPEND"
                have hown := hgq3.own
                go_wp2_with (at_builtin; refine wpList_append_own _ rfl _ _ 24 rfl w3.heap.size 3 i0 (.int .i64 0) 1 8 Try.underlying24 hi hz0 hz1 hz2 rfl (by decide) _ _ _ rfl (hown.alloc _) ⟨w1.heap.size, 0, none⟩ 1 1 [.int .i64 N] rfl rfl ?c1 ?c2 ?c3 ?c4 ?c5 ?_)
                case c2 => rfl
                case c3 => simp only [maxLen]; omega
                case c4 => omega
                case c5 => have := hgq3.below.size; simp; omega
                intro v' w5 hown' hgrow hnil
                have hp := hid (hgq3.push hown' hgrow hnil)
                clear hown hown' hgrow hnil hgq3 hcel
                go_wp2
                go_roundw
                case rel => exact ⟨k + 1, by go_num, by omega, by rw [hn1.out]; exact hp.out⟩
                case measure => simp [intOf]; omega
          · have hE : Hid (cdL m A B C i k = cdL m A B C (i + 1) 0) := by
              have e : k = (mem B).length := by rw [← cst_length]; omega
              unfold Hid; rw [hnx.out, e]
            clear hmQ
            go_wp2
            go_roundw
            case rel => exact ⟨i + 1, by go_num, by omega, by rw [← hE.out]; exact hgq⟩
            case measure => simp [intOf]; omega
      · have hE : Hid (((cst (cdL m A B C i 0)).length : Int) = ((card (diffN m A C) * card B : Nat) : Int)) := by
          have e : i = (mem (diffN m A C)).length := by rw [← cst_length]; omega
          unfold Hid; rw [cst_length, e, hend.out]
        have hbl := hst4.below.trans (hgr.below.mono hst4.below.size)
        clear hnew hspec
        go_wp2
        go_ret2
        exact ⟨ret_ib (by rw [hr.out]; exact hE.out) (by rw [hok.out]), hbl⟩
  · have h3' : three l x y z = false := by simpa using h3
    have hr := hid (triA_no h3')
    have hno := hid h3'
    clear h3
    rcases three_no h3' with h1 | ⟨h1, h2⟩ | ⟨h1, h2, h4⟩
    all_goals
      go_enter Try.func54, Try.ntmps54
      go_wp2_with (first | (go_at_call 64; refine (sIsSet_any _ _ _ _ _ _ hl (St.grp (by assumption))).mono ?_; rintro e wN ⟨rfl, hbN⟩; have hstN := St.step (by assumption) hbN; have hboxN := hstN.box; clear hbN))
      go_ret2
      exact ⟨ret_ib (by rw [hr.out]; rfl) (by rw [hno.out]), St.below (by assumption)⟩
end Go.Proofs.Ytpflnmcecnbilaa
