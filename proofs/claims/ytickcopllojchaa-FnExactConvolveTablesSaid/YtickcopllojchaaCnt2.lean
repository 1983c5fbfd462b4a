/-
  Contracts: two lists of counts added.
-/
import Derived.Test.YtickcopllojchaaCnt
namespace Go.Proofs.Ytickcopllojchaa
open Go.RowKit

def addTo (P Q : List Int) (k : Nat) : List Int := (List.range k).map fun j => P.getD j 0 + Q.getD j 0
theorem addTo_succ (P Q : List Int) (k : Nat) : addTo P Q (k + 1) = addTo P Q k ++ [P.getD k 0 + Q.getD k 0] := by simp [addTo, List.range_succ]
theorem addTo_len (P Q : List Int) (k : Nat) : (addTo P Q k).length = k := by simp [addTo]
def addF (P Q : List Int) : List Int := if cntOk P Q = true then addTo P Q P.length else []
theorem addF_yes {P Q : List Int} (h : cntOk P Q = true) : addF P Q = addTo P Q P.length := by unfold addF; rw [if_pos h]
theorem addF_no {P Q : List Int} (h : cntOk P Q = false) : addF P Q = [] := by unfold addF; rw [if_neg (by simp [h])]
theorem cntOk_yes {P Q : List Int} (h : cntOk P Q = true) : allIn (-1000) 1000 P = true ∧ allIn (-1000) 1000 Q = true ∧ P.length = Q.length ∧ 1 ≤ P.length ∧ P.length ≤ 24 := by
  simp only [cntOk, lenOk, Bool.and_eq_true, decide_eq_true_eq] at h
  have := inB_iff.1 h.2
  exact ⟨h.1.1.1, h.1.1.2, h.1.2, by omega, by omega⟩
theorem addF_len (P Q : List Int) : (addF P Q).length ≤ 1048576 := by
  by_cases h : cntOk P Q = true
  · rw [addF_yes h, addTo_len]; have := cntOk_yes h; omega
  · rw [addF_no (by simpa using h)]; simp
set_option maxHeartbeats 1000000 in
theorem addCounts_any (b cap : Nat) (P : List Int) (b2 cap2 : Nat) (Q : List Int) (w : World) (hP : P.length ≤ 1099511627776) (hQ : Q.length ≤ 1099511627776) (hg : GrpAt w b 0 P) (hg2 : GrpAt w b2 0 Q) :
    Calls Try.prog 17 #[.slice (some ⟨b, 0, none⟩) P.length cap, .slice (some ⟨b2, 0, none⟩) Q.length cap2] w (RetInts w (addF P Q)) := by
  obtain ⟨i0, hi, hz0, hz1, hz2⟩ := info_parts info_int
  have hgr0 := Growing.start' (w := w) #[] rfl
  have hg1 := hg.alloc (.cells #[] 3)
  have hg21 := hg2.alloc (.cells #[] 3)
  by_cases h : cntOk P Q = true
  · obtain ⟨h1, h2, h3, h4, h5⟩ := cntOk_yes h
    have hr := hid (addF_yes h)
    have a1 : Hid (∀ k, k < P.length → -1000 ≤ P.getD k 0 ∧ P.getD k 0 ≤ 1000) := fun k hk => allIn_at h1 hk
    have a2 : Hid (∀ k, k < Q.length → -1000 ≤ Q.getD k 0 ∧ Q.getD k 0 ≤ 1000) := fun k hk => allIn_at h2 hk
    have hlen : Q.length ≤ 24 ∧ P.length ≤ Q.length := by omega
    have hal := hid (addTo_len P Q)
    clear h1 h2 h3
    go_enter Try.func17, Try.ntmps17
    go_wp2_with fail
    refine (areCounts_any _ _ _ _ _ _ _ hP hQ hg1 hg21).mono ?_; rintro e w1 ⟨rfl, hb1⟩; rw [h]
    have hgr1 := hgr0.step hb1
    clear hgr0 hb1 hg1 hg21 h
    go_wp2
    go_loopw [5, 15] (fun o i wr => ∃ k : Nat, i = .int .i64 k ∧ k ≤ P.length ∧ Growing w (addTo P Q k) o wr) (fun _ i _ => P.length - (intOf i).toNat)
    case atStart => exact ⟨0, rfl, by omega, hgr1⟩
    case round =>
      clear hgr1
      rename_i v wr
      obtain ⟨k, rfl, hk, hgr⟩ := hrel
      by_cases hlt : k < P.length
      · have hltQ : k < Q.length := by omega
        have hi1 : (0 : Int) ≤ (k : Int) := by omega
        have hi2 : (k : Int) < (P.length : Int) := by omega
        have hi3 : (k : Int) < (Q.length : Int) := by omega
        have hA := a1.out k hlt
        have hB := a2.out k hltQ
        have hs := hid (addTo_succ P Q k)
        have hlk := hal.out k
        have hcP := ((hg.below hgr.below).drew).cell0 k hlt
        have hcQ := ((hg2.below hgr.below).drew).cell0 k hltQ
        have hgA := (hgr.step ((Below.refl _ _).alloc (Nat.le_refl _) (.cells #[.int .i64 (P.getD k 0 + Q.getD k 0)] 3))).step (Below.refl _ _).drew
        obtain ⟨x, hx⟩ : ∃ x, Hid (P.getD k 0 = x) := ⟨_, rfl⟩
        obtain ⟨y, hy⟩ : ∃ y, Hid (Q.getD k 0 = y) := ⟨_, rfl⟩
        rw [hx.out] at hA hs hcP hgA
        rw [hy.out] at hB hs hcQ hgA
        have hwr : IntKind.i64.wrap (x + y) = x + y := by rw [IntWalk.i64_left, IntWalk.wrap64_in _ (by omega)]
        have hownA := hgA.own
        have hszA := hgA.below.size
        generalize addTo P Q k = T at *
        go_wp2
        refine wp_region_held_drew (S := fun w' => w'.cell? ⟨b, k, none⟩ = some (.int .i64 x) ∧ w'.cell? ⟨b2, k, none⟩ = some (.int .i64 y)) (by kernel_rfl) ⟨hcP, hcQ⟩ (fun hHeld => ?_)
        (refine wpAnyH_take (i := 0) (oi := ?oi79) (v := ?v79) ?hi79 (by kernel_rfl) (by kernel_rfl) (by kernel_rfl) ?hq79 ?hy79 (by assumption) ?hr79; (case hi79 => ((simp only [List.getElem?_toArray, List.getElem?_cons_zero]); exact rfl)); (case hq79 => exact fun _ _ _ h => h); (case hy79 => (refine Or.inl ⟨by rfl, ?_⟩; (intro w hSw); (try dsimp only at hSw); go_simp; (try with_reducible rfl))); (try simp only [Act.put, List.setIfInBounds_toArray, List.set_cons_zero, List.set_cons_succ])); (refine wpAnyH_take (i := 1) (oi := ?oi80) (v := ?v80) ?hi80 (by kernel_rfl) (by kernel_rfl) (by kernel_rfl) ?hq80 ?hy80 (by assumption) ?hr80; (case hi80 => ((simp only [List.getElem?_toArray, List.getElem?_cons_zero, List.getElem?_cons_succ]); exact rfl)); (case hq80 => exact fun _ _ _ h => h); (case hy80 => (refine Or.inl ⟨by rfl, ?_⟩; (intro w hSw); (try dsimp only at hSw); go_simp; (try with_reducible rfl))); (try simp only [Act.put, List.setIfInBounds_toArray, List.set_cons_zero, List.set_cons_succ])); (refine wpAnyH_take (i := 2) (oi := ?oi81) (v := ?v81) ?hi81 (by kernel_rfl) (by kernel_rfl) (by kernel_rfl) ?hq81 ?hy81 (by assumption) ?hr81; (case hi81 => ((simp only [List.getElem?_toArray, List.getElem?_cons_zero, List.getElem?_cons_succ]); exact rfl)); (case hq81 => exact fun _ _ _ h => h); (case hy81 => (refine Or.inl ⟨by rfl, ?_⟩; (intro w hSw); (try dsimp only at hSw); go_simp; (try with_reducible rfl))); (try simp only [Act.put, List.setIfInBounds_toArray, List.set_cons_zero, List.set_cons_succ])); (refine wpAnyH_take (i := 3) (oi := ?oi82) (v := ?v82) ?hi82 (by kernel_rfl) (by kernel_rfl) (by kernel_rfl) ?hq82 ?hy82 (by assumption) ?hr82; (case hi82 => ((simp only [List.getElem?_toArray, List.getElem?_cons_zero, List.getElem?_cons_succ]); exact rfl)); (case hq82 => exact fun _ _ _ h => h); (case hy82 => (refine Or.inl ⟨by rfl, ?_⟩; (intro w hSw); (try dsimp only at hSw); go_simp; (try with_reducible rfl))); (try simp only [Act.put, List.setIfInBounds_toArray, List.set_cons_zero, List.set_cons_succ])); (refine wpAnyH_take (i := 4) (oi := ?oi83) (v := ?v83) ?hi83 (by kernel_rfl) (by kernel_rfl) (by kernel_rfl) ?hq83 ?hy83 (by assumption) ?hr83; (case hi83 => ((simp only [List.getElem?_toArray, List.getElem?_cons_zero, List.getElem?_cons_succ]); exact rfl)); (case hq83 => exact fun _ _ _ h => h); (case hy83 => (refine Or.inl ⟨by rfl, ?_⟩; (intro w hSw); (try dsimp only at hSw); go_simp; (try with_reducible rfl))); (try simp only [Act.put, List.setIfInBounds_toArray, List.set_cons_zero, List.set_cons_succ])); (refine wpAnyH_take (i := 5) (oi := ?oi84) (v := ?v84) ?hi84 (by kernel_rfl) (by kernel_rfl) (by kernel_rfl) ?hq84 ?hy84 (by assumption) ?hr84; (case hi84 => ((simp only [List.getElem?_toArray, List.getElem?_cons_zero, List.getElem?_cons_succ]); exact rfl)); (case hq84 => exact fun _ _ _ h => h); (case hy84 => (refine Or.inl ⟨by rfl, ?_⟩; (intro w hSw); (try dsimp only at hSw); go_simp; (try with_reducible rfl))); (try simp only [Act.put, List.setIfInBounds_toArray, List.set_cons_zero, List.set_cons_succ])); (refine wpAnyH_take (i := 6) (oi := ?oi85) (v := ?v85) ?hi85 (by kernel_rfl) (by kernel_rfl) (by kernel_rfl) ?hq85 ?hy85 (by assumption) ?hr85; (case hi85 => ((simp only [List.getElem?_toArray, List.getElem?_cons_zero, List.getElem?_cons_succ]); exact rfl)); (case hq85 => exact fun _ _ _ h => h); (case hy85 => (refine Or.inl ⟨by rfl, ?_⟩; (intro w hSw); (try dsimp only at hSw); go_simp; (try with_reducible rfl))); (try simp only [Act.put, List.setIfInBounds_toArray, List.set_cons_zero, List.set_cons_succ])); (refine wpAnyH_take (i := 7) (oi := ?oi86) (v := ?v86) ?hi86 (by kernel_rfl) (by kernel_rfl) (by kernel_rfl) ?hq86 ?hy86 (by assumption) ?hr86; (case hi86 => ((simp only [List.getElem?_toArray, List.getElem?_cons_zero, List.getElem?_cons_succ]); exact rfl)); (case hq86 => exact fun _ _ _ h => h); (case hy86 => (refine Or.inl ⟨by rfl, ?_⟩; (intro w hSw); (try dsimp only at hSw); go_simp; (try with_reducible rfl))); (try simp only [Act.put, List.setIfInBounds_toArray, List.set_cons_zero, List.set_cons_succ])); (refine wpAnyH_take (i := 8) (oi := ?oi87) (v := ?v87) ?hi87 (by kernel_rfl) (by kernel_rfl) (by kernel_rfl) ?hq87 ?hy87 (by assumption) ?hr87; (case hi87 => ((simp only [List.getElem?_toArray, List.getElem?_cons_zero, List.getElem?_cons_succ]); exact rfl)); (case hq87 => exact fun _ _ _ h => h); (case hy87 => (refine Or.inl ⟨by rfl, ?_⟩; (intro w hSw); (try dsimp only at hSw); go_simp; (try with_reducible rfl))); (try simp only [Act.put, List.setIfInBounds_toArray, List.set_cons_zero, List.set_cons_succ])); (refine wpAnyH_take (i := 9) (oi := ?oi88) (v := ?v88) ?hi88 (by kernel_rfl) (by kernel_rfl) (by kernel_rfl) ?hq88 ?hy88 (by assumption) ?hr88; (case hi88 => ((simp only [List.getElem?_toArray, List.getElem?_cons_zero, List.getElem?_cons_succ]); exact rfl)); (case hq88 => exact fun _ _ _ h => h); (case hy88 => (refine Or.inl ⟨by rfl, ?_⟩; (intro w hSw); (try dsimp only at hSw); go_simp; (try with_reducible rfl))); (try simp only [Act.put, List.setIfInBounds_toArray, List.set_cons_zero, List.set_cons_succ]))
        refine wpAnyH_ready (rs := [10]) (by kernel_rfl) (by simp) ?_; refine AllReadyH.cons rfl (fun K hK => ?_) AllReadyH.nil; go_simp
        refine hK.out _ _ ?ks (fun hHeld => ?_); (case ks => exact ⟨by rw [((hg.below hgA.below)).cell0 k hlt, hx.out], by rw [((hg2.below hgA.below)).cell0 k hltQ, hy.out]⟩); clear hK K; (try simp only [Act.put, List.setIfInBounds_toArray, List.set_cons_zero, List.set_cons_succ])
        refine wpAnyH_ready (rs := [11]) (by kernel_rfl) (by simp) ?_; refine AllReadyH.cons rfl (fun K hK => ?_) AllReadyH.nil
        refine step_append_lies _ (by rfl) _ _ 22 (by rfl) w.heap.size 3 i0 (.int .i64 0) 1 8 Try.underlying22 hi hz0 hz1 hz2 rfl (by decide) _ _ _ (by rfl) hownA ⟨wr.heap.size, 0, none⟩ 1 1 [.int .i64 (x + y)] (by rfl) rfl (cell_one_new _ _ _) (by intro u hu; simp at hu; subst hu; rfl) (by omega) (by simp only [maxLen]; omega) (by omega) hszA (wr.heap.size + 1) (by simp) ?_
        intro g2 c2 w2 hown2 hgrow2 hlie2 hlt2
        have hgr2 : Growing w (T ++ [x + y]) (.slice (some ⟨g2, 0, none⟩) (T.length + 1) c2) w2 := hgA.app (l2 := [x + y]) hown2 hgrow2 (by simp)
        refine hK.out _ _ ?ks2 (fun hHeld => ?_); (case ks2 => exact ⟨by rw [((hg.below hgr2.below)).cell0 k hlt, hx.out], by rw [((hg2.below hgr2.below)).cell0 k hltQ, hy.out]⟩); clear hK K
        (refine wpAnyH_take (i := 12) (oi := ?oi89) (v := ?v89) ?hi89 (by kernel_rfl) (by kernel_rfl) (by kernel_rfl) ?hq89 ?hy89 (by assumption) ?hr89; (case hi89 => ((simp only [List.getElem?_toArray, List.getElem?_cons_zero, List.getElem?_cons_succ]); exact rfl)); (case hq89 => exact fun _ _ _ h => h); (case hy89 => (refine Or.inl ⟨by rfl, ?_⟩; (intro w hSw); (try dsimp only at hSw); go_simp; (try with_reducible rfl))))
        refine wpAnyH_done (by kernel_rfl) ?_ _
        clear hown2 hgrow2 hlie2 hgA hownA hgr hHeld
        go_wp2
        go_roundw
        case rel => exact ⟨k + 1, by go_num, by omega, by rw [hs.out]; rw [hlk] at hgr2; exact hgr2⟩
        case measure => simp [intOf]; omega
      · have hend : Hid (addTo P Q k = addF P Q) := by unfold Hid; rw [hr.out, show k = P.length from by omega]
        go_wp2
        go_ret
        rw [← hend.out]
        exact hgr.ret
  · have hn : cntOk P Q = false := by simpa using h
    have hr := hid (addF_no hn)
    clear h
    go_enter Try.func17, Try.ntmps17
    go_wp2_with fail
    refine (areCounts_any _ _ _ _ _ _ _ hP hQ hg1 hg21).mono ?_; rintro e w1 ⟨rfl, hb1⟩; rw [hn]
    have hgr1 := hgr0.step hb1
    go_wp2
    go_ret
    rw [hr.out]
    exact hgr1.ret
def l7B (P : List Int) : Bool := allIn (-1000) 1000 P && lenOk P
theorem l7B_yes {P Q : List Int} (h : cntOk P Q = true) : l7B P = true ∧ l7B Q = true ∧ P.length = Q.length := by
  simp only [cntOk, Bool.and_eq_true, decide_eq_true_eq] at h
  have h2 : lenOk Q = true := by unfold lenOk at *; rw [← h.1.2]; exact h.2
  exact ⟨by unfold l7B; rw [h.1.1.1, h.2]; rfl, by unfold l7B; rw [h.1.1.2, h2]; rfl, h.1.2⟩
theorem l7B_no {P Q : List Int} (h : cntOk P Q = false) : ¬ 0 < P.length ∨ (0 < P.length ∧ l7B P = false) ∨ (0 < P.length ∧ l7B P = true ∧ l7B Q = false) ∨ (0 < P.length ∧ l7B P = true ∧ l7B Q = true ∧ ¬ P.length = Q.length) := by
  by_cases h0 : 0 < P.length
  · right
    cases h1 : l7B P
    · exact .inl ⟨h0, rfl⟩
    · right
      cases h2 : l7B Q
      · exact .inl ⟨h0, rfl, rfl⟩
      · right
        refine ⟨h0, rfl, rfl, fun e => ?_⟩
        simp only [l7B, Bool.and_eq_true] at h1 h2
        simp only [cntOk, h1.1, h1.2, h2.1, e] at h
        simp at h
  · exact .inl h0
set_option maxHeartbeats 1000000 in
theorem sAddCounts_any (b cap : Nat) (P : List Int) (b2 cap2 : Nat) (Q : List Int) (w : World) (hP : P.length ≤ 1099511627776) (hQ : Q.length ≤ 1099511627776) (hg : GrpAt w b 0 P) (hg2 : GrpAt w b2 0 Q) :
    Calls Try.prog 15 #[.slice (some ⟨b, 0, none⟩) P.length cap, .slice (some ⟨b2, 0, none⟩) Q.length cap2] w (RetInts w (addF P Q)) := by
  obtain ⟨i0, hi, hz0, hz1, hz2⟩ := info_parts info_int
  have hgr0 := Growing.start' (w := w) #[] rfl
  have e7 : ∀ (b cap : Nat) (P : List Int) (w : World) (hP : P.length ≤ 1099511627776) (hg : GrpAt w b 0 P), Calls Try.prog 47 #[.slice (some ⟨b, 0, none⟩) P.length cap] w fun e w' => e = .returned (.bool (l7B P)) ∧ w = w' := l7Counts_any
  have h7 := hid e7
  clear e7
  by_cases h : cntOk P Q = true
  · obtain ⟨h1, h2, h3, h4, h5⟩ := cntOk_yes h
    obtain ⟨l1, l2, l3⟩ := l7B_yes h
    clear l3
    have hr := hid (addF_yes h)
    have a1 : Hid (∀ k, k < P.length → -1000 ≤ P.getD k 0 ∧ P.getD k 0 ≤ 1000) := fun k hk => allIn_at h1 hk
    have a2 : Hid (∀ k, k < Q.length → -1000 ≤ Q.getD k 0 ∧ Q.getD k 0 ≤ 1000) := fun k hk => allIn_at h2 hk
    have hlen : Q.length ≤ 24 ∧ P.length ≤ Q.length := by omega
    have hle : Q.length ≤ P.length := by omega
    have hal := hid (addTo_len P Q)
    clear h1 h2 h3 h
    go_enter Try.func15, Try.ntmps15
    go_wp2
    go_loopw [5, 6] (fun o i wr => ∃ k : Nat, i = .int .i64 k ∧ k ≤ P.length ∧ Growing w (addTo P Q k) o wr) (fun _ i _ => P.length - (intOf i).toNat)
    case atStart => exact ⟨0, rfl, by omega, hgr0⟩
    case round =>
      clear hgr0
      rename_i v wr
      obtain ⟨k, rfl, hk, hgr⟩ := hrel
      by_cases hlt : k < P.length
      · have hltQ : k < Q.length := by omega
        have hi1 : (0 : Int) ≤ (k : Int) := by omega
        have hi2 : (k : Int) < (P.length : Int) := by omega
        have hi3 : (k : Int) < (Q.length : Int) := by omega
        have hA := a1.out k hlt
        have hB := a2.out k hltQ
        have hs := hid (addTo_succ P Q k)
        have hlk := hal.out k
        have hcP := ((hg.below hgr.below).drew).cell0 k hlt
        have hcQ := ((hg2.below hgr.below).drew).cell0 k hltQ
        have hgA := (hgr.step ((Below.refl _ _).alloc (Nat.le_refl _) (.cells #[.int .i64 (P.getD k 0 + Q.getD k 0)] 3))).step (Below.refl _ _).drew
        obtain ⟨x, hx⟩ : ∃ x, Hid (P.getD k 0 = x) := ⟨_, rfl⟩
        obtain ⟨y, hy⟩ : ∃ y, Hid (Q.getD k 0 = y) := ⟨_, rfl⟩
        rw [hx.out] at hA hs hcP hgA
        rw [hy.out] at hB hs hcQ hgA
        have hwr : IntKind.i64.wrap (x + y) = x + y := by rw [IntWalk.i64_left, IntWalk.wrap64_in _ (by omega)]
        have hownA := hgA.own
        have hszA := hgA.below.size
        generalize addTo P Q k = T at *
        go_wp2_with fail
        refine (h7.out _ _ _ _ hP (hg.below hgr.below)).mono ?_; rintro e w3 ⟨rfl, rfl⟩; rw [l1]
        go_wp2_with fail
        refine (h7.out _ _ _ _ hQ (hg2.below hgr.below)).mono ?_; rintro e w3 ⟨rfl, rfl⟩; rw [l2]
        go_wp2
        refine wp_region_held_drew (S := fun w' => w'.cell? ⟨b, k, none⟩ = some (.int .i64 x) ∧ w'.cell? ⟨b2, k, none⟩ = some (.int .i64 y)) (by kernel_rfl) ⟨hcP, hcQ⟩ (fun hHeld => ?_)
        (refine wpAnyH_take (i := 0) (oi := ?oi90) (v := ?v90) ?hi90 (by kernel_rfl) (by kernel_rfl) (by kernel_rfl) ?hq90 ?hy90 (by assumption) ?hr90; (case hi90 => ((simp only [List.getElem?_toArray, List.getElem?_cons_zero]); exact rfl)); (case hq90 => exact fun _ _ _ h => h); (case hy90 => (refine Or.inl ⟨by rfl, ?_⟩; (intro w hSw); (try dsimp only at hSw); go_simp; (try with_reducible rfl))); (try simp only [Act.put, List.setIfInBounds_toArray, List.set_cons_zero, List.set_cons_succ])); (refine wpAnyH_take (i := 1) (oi := ?oi91) (v := ?v91) ?hi91 (by kernel_rfl) (by kernel_rfl) (by kernel_rfl) ?hq91 ?hy91 (by assumption) ?hr91; (case hi91 => ((simp only [List.getElem?_toArray, List.getElem?_cons_zero, List.getElem?_cons_succ]); exact rfl)); (case hq91 => exact fun _ _ _ h => h); (case hy91 => (refine Or.inl ⟨by rfl, ?_⟩; (intro w hSw); (try dsimp only at hSw); go_simp; (try with_reducible rfl))); (try simp only [Act.put, List.setIfInBounds_toArray, List.set_cons_zero, List.set_cons_succ])); (refine wpAnyH_take (i := 2) (oi := ?oi92) (v := ?v92) ?hi92 (by kernel_rfl) (by kernel_rfl) (by kernel_rfl) ?hq92 ?hy92 (by assumption) ?hr92; (case hi92 => ((simp only [List.getElem?_toArray, List.getElem?_cons_zero, List.getElem?_cons_succ]); exact rfl)); (case hq92 => exact fun _ _ _ h => h); (case hy92 => (refine Or.inl ⟨by rfl, ?_⟩; (intro w hSw); (try dsimp only at hSw); go_simp; (try with_reducible rfl))); (try simp only [Act.put, List.setIfInBounds_toArray, List.set_cons_zero, List.set_cons_succ])); (refine wpAnyH_take (i := 3) (oi := ?oi93) (v := ?v93) ?hi93 (by kernel_rfl) (by kernel_rfl) (by kernel_rfl) ?hq93 ?hy93 (by assumption) ?hr93; (case hi93 => ((simp only [List.getElem?_toArray, List.getElem?_cons_zero, List.getElem?_cons_succ]); exact rfl)); (case hq93 => exact fun _ _ _ h => h); (case hy93 => (refine Or.inl ⟨by rfl, ?_⟩; (intro w hSw); (try dsimp only at hSw); go_simp; (try with_reducible rfl))); (try simp only [Act.put, List.setIfInBounds_toArray, List.set_cons_zero, List.set_cons_succ])); (refine wpAnyH_take (i := 4) (oi := ?oi94) (v := ?v94) ?hi94 (by kernel_rfl) (by kernel_rfl) (by kernel_rfl) ?hq94 ?hy94 (by assumption) ?hr94; (case hi94 => ((simp only [List.getElem?_toArray, List.getElem?_cons_zero, List.getElem?_cons_succ]); exact rfl)); (case hq94 => exact fun _ _ _ h => h); (case hy94 => (refine Or.inl ⟨by rfl, ?_⟩; (intro w hSw); (try dsimp only at hSw); go_simp; (try with_reducible rfl))); (try simp only [Act.put, List.setIfInBounds_toArray, List.set_cons_zero, List.set_cons_succ])); (refine wpAnyH_take (i := 5) (oi := ?oi95) (v := ?v95) ?hi95 (by kernel_rfl) (by kernel_rfl) (by kernel_rfl) ?hq95 ?hy95 (by assumption) ?hr95; (case hi95 => ((simp only [List.getElem?_toArray, List.getElem?_cons_zero, List.getElem?_cons_succ]); exact rfl)); (case hq95 => exact fun _ _ _ h => h); (case hy95 => (refine Or.inl ⟨by rfl, ?_⟩; (intro w hSw); (try dsimp only at hSw); go_simp; (try with_reducible rfl))); (try simp only [Act.put, List.setIfInBounds_toArray, List.set_cons_zero, List.set_cons_succ])); (refine wpAnyH_take (i := 6) (oi := ?oi96) (v := ?v96) ?hi96 (by kernel_rfl) (by kernel_rfl) (by kernel_rfl) ?hq96 ?hy96 (by assumption) ?hr96; (case hi96 => ((simp only [List.getElem?_toArray, List.getElem?_cons_zero, List.getElem?_cons_succ]); exact rfl)); (case hq96 => exact fun _ _ _ h => h); (case hy96 => (refine Or.inl ⟨by rfl, ?_⟩; (intro w hSw); (try dsimp only at hSw); go_simp; (try with_reducible rfl))); (try simp only [Act.put, List.setIfInBounds_toArray, List.set_cons_zero, List.set_cons_succ])); (refine wpAnyH_take (i := 7) (oi := ?oi97) (v := ?v97) ?hi97 (by kernel_rfl) (by kernel_rfl) (by kernel_rfl) ?hq97 ?hy97 (by assumption) ?hr97; (case hi97 => ((simp only [List.getElem?_toArray, List.getElem?_cons_zero, List.getElem?_cons_succ]); exact rfl)); (case hq97 => exact fun _ _ _ h => h); (case hy97 => (refine Or.inl ⟨by rfl, ?_⟩; (intro w hSw); (try dsimp only at hSw); go_simp; (try with_reducible rfl))); (try simp only [Act.put, List.setIfInBounds_toArray, List.set_cons_zero, List.set_cons_succ])); (refine wpAnyH_take (i := 8) (oi := ?oi98) (v := ?v98) ?hi98 (by kernel_rfl) (by kernel_rfl) (by kernel_rfl) ?hq98 ?hy98 (by assumption) ?hr98; (case hi98 => ((simp only [List.getElem?_toArray, List.getElem?_cons_zero, List.getElem?_cons_succ]); exact rfl)); (case hq98 => exact fun _ _ _ h => h); (case hy98 => (refine Or.inl ⟨by rfl, ?_⟩; (intro w hSw); (try dsimp only at hSw); go_simp; (try with_reducible rfl))); (try simp only [Act.put, List.setIfInBounds_toArray, List.set_cons_zero, List.set_cons_succ])); (refine wpAnyH_take (i := 9) (oi := ?oi99) (v := ?v99) ?hi99 (by kernel_rfl) (by kernel_rfl) (by kernel_rfl) ?hq99 ?hy99 (by assumption) ?hr99; (case hi99 => ((simp only [List.getElem?_toArray, List.getElem?_cons_zero, List.getElem?_cons_succ]); exact rfl)); (case hq99 => exact fun _ _ _ h => h); (case hy99 => (refine Or.inl ⟨by rfl, ?_⟩; (intro w hSw); (try dsimp only at hSw); go_simp; (try with_reducible rfl))); (try simp only [Act.put, List.setIfInBounds_toArray, List.set_cons_zero, List.set_cons_succ]))
        refine wpAnyH_ready (rs := [10]) (by kernel_rfl) (by simp) ?_; refine AllReadyH.cons rfl (fun K hK => ?_) AllReadyH.nil; go_simp
        refine hK.out _ _ ?ks (fun hHeld => ?_); (case ks => exact ⟨by rw [((hg.below hgA.below)).cell0 k hlt, hx.out], by rw [((hg2.below hgA.below)).cell0 k hltQ, hy.out]⟩); clear hK K; (try simp only [Act.put, List.setIfInBounds_toArray, List.set_cons_zero, List.set_cons_succ])
        refine wpAnyH_ready (rs := [11]) (by kernel_rfl) (by simp) ?_; refine AllReadyH.cons rfl (fun K hK => ?_) AllReadyH.nil
        refine step_append_lies _ (by rfl) _ _ 22 (by rfl) w.heap.size 3 i0 (.int .i64 0) 1 8 Try.underlying22 hi hz0 hz1 hz2 rfl (by decide) _ _ _ (by rfl) hownA ⟨wr.heap.size, 0, none⟩ 1 1 [.int .i64 (x + y)] (by rfl) rfl (cell_one_new _ _ _) (by intro u hu; simp at hu; subst hu; rfl) (by omega) (by simp only [maxLen]; omega) (by omega) hszA (wr.heap.size + 1) (by simp) ?_
        intro g2 c2 w2 hown2 hgrow2 hlie2 hlt2
        have hgr2 : Growing w (T ++ [x + y]) (.slice (some ⟨g2, 0, none⟩) (T.length + 1) c2) w2 := hgA.app (l2 := [x + y]) hown2 hgrow2 (by simp)
        refine hK.out _ _ ?ks2 (fun hHeld => ?_); (case ks2 => exact ⟨by rw [((hg.below hgr2.below)).cell0 k hlt, hx.out], by rw [((hg2.below hgr2.below)).cell0 k hltQ, hy.out]⟩); clear hK K
        (refine wpAnyH_take (i := 12) (oi := ?oi100) (v := ?v100) ?hi100 (by kernel_rfl) (by kernel_rfl) (by kernel_rfl) ?hq100 ?hy100 (by assumption) ?hr100; (case hi100 => ((simp only [List.getElem?_toArray, List.getElem?_cons_zero, List.getElem?_cons_succ]); exact rfl)); (case hq100 => exact fun _ _ _ h => h); (case hy100 => (refine Or.inl ⟨by rfl, ?_⟩; (intro w hSw); (try dsimp only at hSw); go_simp; (try with_reducible rfl))))
        refine wpAnyH_done (by kernel_rfl) ?_ _
        clear hown2 hgrow2 hlie2 hgA hownA hgr hHeld
        go_wp2
        go_roundw
        case rel => exact ⟨k + 1, by go_num, by omega, by rw [hs.out]; rw [hlk] at hgr2; exact hgr2⟩
        case measure => simp [intOf]; omega
      · have hend : Hid (addTo P Q k = addF P Q) := by unfold Hid; rw [hr.out, show k = P.length from by omega]
        go_wp2
        go_ret
        rw [← hend.out]
        exact hgr.ret
  · have hn : cntOk P Q = false := by simpa using h
    have hr := hid (addF_no hn)
    have hc := l7B_no hn
    clear h hn
    go_enter Try.func15, Try.ntmps15
    go_wp2
    go_loopw [5, 6] (fun o i wr => i = .int .i64 0 ∧ Growing w [] o wr) (fun _ _ _ => 0)
    case atStart => exact ⟨rfl, hgr0⟩
    case round =>
      clear hgr0
      rename_i v wr
      obtain ⟨rfl, hgr⟩ := hrel
      rcases hc with h0 | ⟨h0, h1⟩ | ⟨h0, h1, h2⟩ | ⟨h0, h1, h2, h3⟩
      · go_wp2
        go_ret
        rw [hr.out]
        exact hgr.ret
      · go_wp2_with fail
        refine (h7.out _ _ _ _ hP (hg.below hgr.below)).mono ?_; rintro e w3 ⟨rfl, rfl⟩; rw [h1]
        go_wp2
        go_ret
        rw [hr.out]
        exact hgr.ret
      · go_wp2_with fail
        refine (h7.out _ _ _ _ hP (hg.below hgr.below)).mono ?_; rintro e w3 ⟨rfl, rfl⟩; rw [h1]
        go_wp2_with fail
        refine (h7.out _ _ _ _ hQ (hg2.below hgr.below)).mono ?_; rintro e w3 ⟨rfl, rfl⟩; rw [h2]
        go_wp2
        go_ret
        rw [hr.out]
        exact hgr.ret
      · have hle : ((P.length : Int) == (Q.length : Int)) = false := by rw [beq_eq_false_iff_ne]; omega
        clear h3
        go_wp2_with fail
        refine (h7.out _ _ _ _ hP (hg.below hgr.below)).mono ?_; rintro e w3 ⟨rfl, rfl⟩; rw [h1]
        go_wp2_with fail
        refine (h7.out _ _ _ _ hQ (hg2.below hgr.below)).mono ?_; rintro e w3 ⟨rfl, rfl⟩; rw [h2]
        go_wp2
        go_ret
        rw [hr.out]
        exact hgr.ret
end Go.Proofs.Ytickcopllojchaa
