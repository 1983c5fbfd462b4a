/-
  Contracts: the least of the sets with fewest elements whose n-fold sum is the group.
-/
import Derived.Test.YtpflnmcecnbilaaComb
import Derived.Test.YtpflnmcecnbilaaPrime
import Derived.Test.YtpflnmcecnbilaaMulti
import Derived.Test.YtpflnmcecnbilaaBits
import Derived.Deep.RegionHeld3
namespace Go.Proofs.Ytpflnmcecnbilaa
open Go.RowKit

def fullB (m : List Nat) (N a : Nat) : Bool := decide (multN m a N = pw (prodN m) - 1)
def leastS (m : List Nat) (N a : Nat) : Bool := fullB m N a && (List.range (pw (prodN m))).all fun z => !fullB m N z || decide (card a < card z) || (decide (card a = card z) && decide (a ≤ z))
def smN (m : List Nat) (N : Nat) : Nat := ((List.range (pw (prodN m))).find? (leastS m N)).getD 0
theorem leastS_iff {m : List Nat} {N a : Nat} : leastS m N a = true ↔ fullB m N a = true ∧ ∀ z, z < pw (prodN m) → fullB m N z = true → card a < card z ∨ (card a = card z ∧ a ≤ z) := by
  simp only [leastS, Bool.and_eq_true, List.all_eq_true, List.mem_range, Bool.or_eq_true, decide_eq_true_eq, Bool.not_eq_true']
  constructor
  · rintro ⟨h1, h2⟩
    refine ⟨h1, fun z hz hf => ?_⟩
    rcases h2 z hz with (h | h) | h
    · rw [hf] at h; cases h
    · exact .inl h
    · exact .inr h
  · rintro ⟨h1, h2⟩
    refine ⟨h1, fun z hz => ?_⟩
    cases hf : fullB m N z
    · exact .inl (.inl rfl)
    · rcases h2 z hz hf with h | h
      · exact .inl (.inr h)
      · exact .inr h
theorem smN_eq {m : List Nat} {N a : Nat} (ha : a < pw (prodN m)) (h : fullB m N a = true) (hl : ∀ z, z < pw (prodN m) → fullB m N z = true → card a < card z ∨ (card a = card z ∧ a ≤ z)) : smN m N = a := by
  have hla : leastS m N a = true := leastS_iff.2 ⟨h, hl⟩
  unfold smN
  cases e : (List.range (pw (prodN m))).find? (leastS m N) with
  | none =>
    rw [List.find?_eq_none] at e
    exact absurd hla (by simpa using e a (List.mem_range.2 ha))
  | some y =>
    have h1 := List.find?_some e
    have h2 := List.mem_range.1 (List.mem_of_find?_eq_some e)
    have h3 := leastS_iff.1 h1
    have h4 := h3.2 a ha h
    have h5 := hl y h2 h3.1
    simp; omega
theorem sum_full {m : List Nat} (hm : Ok m) {S : Nat} (h : S ≠ 0) (hS : S < 2 ^ prodN m) : sumN m S (pw (prodN m) - 1) = pw (prodN m) - 1 := by
  refine eq_of_sub (hm.lt24 (hm.sum_lt _ _)) (hm.lt24 (full_lt _)) (fun x hx => (mem_full hm.ord).2 (hm.mlt (hm.sum_lt _ _) hx)) ?_
  obtain ⟨s, hs⟩ := card_pos (hm.lt24 hS) h
  refine card_mono fun x hx => (mem_sumN hm).2 ⟨s, hs, addN m x (negN m s), (mem_full hm.ord).2 (hm.add_lt _ _), ?_⟩
  rw [addN_comm]; exact hm.sub_add s ((mem_full hm.ord).1 hx)
theorem full_ne {m : List Nat} (hm : Ok m) : pw (prodN m) - 1 ≠ 0 := by
  intro e
  have h := (mem_full hm.ord).2 hm.pos
  rw [e] at h; simp [mem_iff] at h
theorem mult_full {m : List Nat} (hm : Ok m) : ∀ N, multN m (pw (prodN m) - 1) (N + 1) = pw (prodN m) - 1
  | 0 => sum_full hm (by simp [multN]) (by have h1 := hm.pos; have h2 : 2 ^ 1 ≤ 2 ^ prodN m := Nat.pow_le_pow_right (by omega) h1; simp only [multN]; omega)
  | N + 1 => by
    have ih := mult_full hm N
    show sumN m (multN m (pw (prodN m) - 1) (N + 1)) _ = _
    rw [ih]; exact sum_full hm (full_ne hm) (full_lt _)
theorem fullB_full {m : List Nat} (hm : Ok m) {N : Nat} (hN : 1 ≤ N) : fullB m N (pw (prodN m) - 1) = true := by
  obtain ⟨k, rfl⟩ : ∃ k, N = k + 1 := ⟨N - 1, by omega⟩
  unfold fullB; rw [mult_full hm k, decide_eq_true_eq]
theorem fullB_card {m : List Nat} (hm : Ok m) {N a : Nat} (hN : 1 ≤ N) (ha : a < pw (prodN m)) (h : fullB m N a = true) : 1 ≤ card a := by
  refine ne_zero_card (Nat.lt_of_lt_of_le ha hm.pow_le) fun e => ?_
  subst e
  obtain ⟨k, rfl⟩ : ∃ k, N = k + 1 := ⟨N - 1, by omega⟩
  have h : sumN m (multN m 0 k) 0 = pw (prodN m) - 1 := of_decide_eq_true h
  have h2 := (mem_full hm.ord).2 hm.pos
  rw [← h] at h2
  obtain ⟨_, _, y, hy, _⟩ := (mem_sumN hm).1 h2
  simp [mem_iff] at hy
def smOk (l : List Int) (n : Int) : Bool := grp l && decide (ordN l ≤ 12) && inB n 1 4
theorem smOk_no {l : List Int} {n : Int} (h : smOk l n = false) : grp l = false ∨ (grp l = true ∧ ¬ ordN l ≤ 12) ∨ (grp l = true ∧ ordN l ≤ 12 ∧ inB n 1 4 = false) := by
  unfold smOk at h
  cases h1 : grp l
  · exact .inl rfl
  · by_cases h2 : ordN l ≤ 12
    · exact .inr (.inr ⟨rfl, h2, by simpa [h1, h2] using h⟩)
    · exact .inr (.inl ⟨rfl, h2⟩)
theorem smOk_iff {l : List Int} {n : Int} (h : smOk l n = true) : ∃ m N, Ok m ∧ l = cst m ∧ n = ((N : Nat) : Int) ∧ 1 ≤ N ∧ N ≤ 4 ∧ prodN m ≤ 12 ∧ inB n 1 4 = true ∧ grp l = true := by
  simp only [smOk, Bool.and_eq_true, decide_eq_true_eq] at h
  obtain ⟨m, hm, rfl⟩ := grp_ok h.1.1
  have h2 := inB_iff.1 h.2
  rw [ordN_yes hm] at h
  exact ⟨m, n.toNat, hm, rfl, by omega, by omega, by omega, h.1.2, h.2, h.1.1⟩
def smF (l : List Int) (n : Int) : Int := if smOk l n = true then (smN (toN l) n.toNat : Nat) else 0
theorem smF_yes {m : List Nat} {N : Nat} (h : smOk (cst m) N = true) : smF (cst m) N = (smN m N : Nat) := by
  unfold smF; rw [if_pos h, toN_cst, Int.toNat_natCast]
theorem smF_no {l : List Int} {n : Int} (h : smOk l n = false) : smF l n = 0 := by unfold smF; rw [if_neg (by simp [h])]
theorem ret_ibS {a a' : Int} {b b' : Bool} (h1 : a = a') (h2 : b = b') : Ending.returned (.tuple #[.int .i64 a, .bool b]) = .returned (.tuple #[.int .i64 a', .bool b']) := by rw [h1, h2]
theorem fullB_int {m : List Nat} {N a : Nat} : (((multN m a N : Nat) : Int) == ((pw (prodN m) - 1 : Nat) : Int)) = fullB m N a := by
  unfold fullB; rw [Bool.eq_iff_iff, beq_iff_eq, decide_eq_true_eq]; omega
theorem pw12 {n : Nat} (h : n ≤ 12) : 1 ≤ pw n ∧ pw n ≤ 4096 := ⟨Nat.one_le_two_pow, Nat.pow_le_pow_right (n := 2) (j := 12) (by omega) h⟩
set_option maxHeartbeats 1000000 in
theorem smallestBasis_any (b off cap : Nat) (l : List Int) (n : Int) (w : World) (hl : l.length ≤ 1099511627776) (hg : GrpAt w b off l) :
    Calls Try.prog 103 #[.agg #[.slice (some ⟨b, off, none⟩) l.length cap], .int .i64 n] w fun e w' => e = .returned (.tuple #[.int .i64 (smF l n), .bool (smOk l n)]) ∧ Below w.heap.size w w' := by
  have hst := St.init cap 26 hg
  clear hg
  by_cases h : smOk l n = true
  · have h0 := smOk_iff h
    obtain ⟨m, N, hm, rfl, rfl, hN1, hN4, h12, hin, hgr⟩ := h0
    have hr := hid (smF_yes h)
    have hk := hid h
    have hP := pw12 h12
    have hpos := hm.pos
    have hN30 : N ≤ 30 := by omega
    have hF := hid (fullB_full hm hN1)
    have hFc := hid (card_full hm.ord)
    have hc1 : Hid (∀ z, z < pw (prodN m) → fullB m N z = true → 1 ≤ card z) := fun z hz hf => fullB_card hm hN1 hz hf
    clear h
    go_enter Try.func103, Try.ntmps103
    go_wp2_with (first | (go_at_call 170; refine (isGroup_any _ _ _ _ _ hl (St.grp (by assumption))).mono ?_; rintro e wN ⟨rfl, hbN⟩; have hstN := St.step (by assumption) hbN; have hboxN := hstN.box; clear hbN) | (go_at_call 130; refine (orderOf_yes _ _ _ _ _ hm (St.grp (by assumption))).mono ?_; rintro e wN ⟨rfl, hbN⟩; have hstN := St.step (by assumption) hbN; have hboxN := hstN.box; clear hbN) | (go_at_call 121; refine (within_any _ _ _ _).mono ?_; rintro e wN ⟨rfl, rfl⟩))
    have hst1 : St w b off cap (cst m) wN := by assumption
    clear hst hboxN
    go_loopw [6] (fun u wr => ∃ s : Nat, u = .int .i64 s ∧ 1 ≤ s ∧ s ≤ prodN m + 1 ∧ Hid (∀ z, z < pw (prodN m) → fullB m N z = true → s ≤ card z) ∧ St w b off cap (cst m) wr) (fun u _ => prodN m + 1 - (intOf u).toNat)
    case atStart => exact ⟨1, rfl, by omega, by omega, hc1, hst1⟩
    case round =>
      clear hst1
      rename_i wr
      obtain ⟨s, rfl, hs1, hsp, hs, hstr⟩ := hrel
      have hbox := hstr.box
      by_cases hle : s ≤ prodN m
      · go_wp2_with (first | (go_at_call 130; refine (orderOf_yes _ _ _ _ _ hm (St.grp (by assumption))).mono ?_; rintro e wN ⟨rfl, hbN⟩; have hstN := St.step (by assumption) hbN; have hboxN := hstN.box; clear hbN) | (go_at_call 131; refine (fullSet_yes _ _ _ _ _ hm (St.grp (by assumption))).mono ?_; rintro e wN ⟨rfl, hbN⟩; have hstN := St.step (by assumption) hbN; have hboxN := hstN.box; clear hbN))
        have hst2 : St w b off cap (cst m) wN := by assumption
        clear hstr hboxN hbox
        go_loopw [30] (fun u wr => ∃ a : Nat, u = .int .i64 a ∧ a ≤ pw (prodN m) ∧ Hid (∀ z, z < a → fullB m N z = true → ¬ card z = s) ∧ St w b off cap (cst m) wr) (fun u _ => pw (prodN m) - (intOf u).toNat)
        case atStart => exact ⟨0, rfl, by omega, fun z hz => by omega, hst2⟩
        case round =>
          clear hst2
          rename_i wr
          obtain ⟨a, rfl, ha, hno, hstr⟩ := hrel
          have hst0 := hstr.drew
          by_cases hlt : a < pw (prodN m)
          · have ha24 : a < 16777216 := by omega
            have haP : a < 2 ^ prodN m := hlt
            have hcard := card_le a
            by_cases hcs : card a = s
            · have hce : (((card a : Nat) : Int) == (s : Int)) = true := by rw [beq_iff_eq]; omega
              have hfi := @fullB_int m N a
              by_cases hf : fullB m N a = true
              · have he : Hid (smN m N = a) := smN_eq hlt hf fun z hz hzf => by
                  have h1 := hs.out z hz hzf
                  rcases (by omega : card a < card z ∨ card a = card z) with h2 | h2
                  · exact .inl h2
                  · refine .inr ⟨h2, ?_⟩
                    rcases Nat.lt_or_ge z a with h3 | h3
                    · exact absurd (by omega) (hno.out z h3 hzf)
                    · exact h3
                rw [hf] at hfi
                clear hcs hf
                go_wp2
                refine wp_region_held_drew (S := fun w' => w'.cell? ⟨w.heap.size, 0, none⟩ = some (.slice (some ⟨b, off, none⟩) (cst m).length cap) ∧ St w b off cap (cst m) w') (by kernel_rfl) ⟨hst0.box, hst0⟩ (fun hHeld => ?_)
                (refine wpAnyH_take (i := 0) (oi := ?oi252) (v := ?v252) ?hi252 (by kernel_rfl) (by kernel_rfl) (by kernel_rfl) ?hq252 ?hy252 (by assumption) ?hr252; (case hi252 => ((simp only [List.getElem?_toArray, List.getElem?_cons_zero]); exact rfl)); (case hq252 => exact fun _ _ _ h => h); (case hy252 => (refine Or.inl ⟨by rfl, ?_⟩; (intro w hSw); (try dsimp only at hSw); go_simp; (try with_reducible rfl))); (try simp only [Act.put, List.setIfInBounds_toArray, List.set_cons_zero, List.set_cons_succ])); (refine wpAnyH_take (i := 2) (oi := ?oi253) (v := ?v253) ?hi253 (by kernel_rfl) (by kernel_rfl) (by kernel_rfl) ?hq253 ?hy253 (by assumption) ?hr253; (case hi253 => ((simp only [List.getElem?_toArray, List.getElem?_cons_zero, List.getElem?_cons_succ]); exact rfl)); (case hq253 => exact fun _ _ _ h => h); (case hy253 => (refine Or.inl ⟨by rfl, ?_⟩; (intro w hSw); (try dsimp only at hSw); go_simp; (try with_reducible rfl))); (try simp only [Act.put, List.setIfInBounds_toArray, List.set_cons_zero, List.set_cons_succ]))
                refine wpAnyH_ready (rs := [1]) (by kernel_rfl) (by simp) ?_; refine AllReadyH.cons rfl (fun K hK => ?_) AllReadyH.nil; go_simp
                (go_at_call 114; refine (bits_any _ _ (by omega)).mono ?_; rintro e w1 ⟨rfl, rfl⟩)
                go_wp2_with fail
                refine hK.out _ _ ?ks (fun hHeld => ?_); (case ks => (assumption)); clear hK K; (try simp only [Act.put, List.setIfInBounds_toArray, List.set_cons_zero, List.set_cons_succ])
                (refine wpAnyH_take (i := 3) (oi := ?oi254) (v := ?v254) ?hi254 (by kernel_rfl) (by kernel_rfl) (by kernel_rfl) ?hq254 ?hy254 (by assumption) ?hr254; (case hi254 => ((simp only [List.getElem?_toArray, List.getElem?_cons_zero, List.getElem?_cons_succ]); exact rfl)); (case hq254 => exact fun _ _ _ h => h); (case hy254 => (refine Or.inl ⟨by rfl, ?_⟩; (intro w hSw); (try dsimp only at hSw); go_simp; (try with_reducible rfl))); (try simp only [Act.put, List.setIfInBounds_toArray, List.set_cons_zero, List.set_cons_succ])); (refine wpAnyH_take (i := 4) (oi := ?oi255) (v := ?v255) ?hi255 (by kernel_rfl) (by kernel_rfl) (by kernel_rfl) ?hq255 ?hy255 (by assumption) ?hr255; (case hi255 => ((simp only [List.getElem?_toArray, List.getElem?_cons_zero, List.getElem?_cons_succ]); exact rfl)); (case hq255 => exact fun _ _ _ h => h); (case hy255 => (refine Or.inl ⟨by rfl, ?_⟩; (intro w hSw); (try dsimp only at hSw); go_simp; (try with_reducible rfl))); (try simp only [Act.put, List.setIfInBounds_toArray, List.set_cons_zero, List.set_cons_succ])); (refine wpAnyH_take (i := 5) (oi := ?oi256) (v := ?v256) ?hi256 (by kernel_rfl) (by kernel_rfl) (by kernel_rfl) ?hq256 ?hy256 (by assumption) ?hr256; (case hi256 => ((simp only [List.getElem?_toArray, List.getElem?_cons_zero, List.getElem?_cons_succ]); exact rfl)); (case hq256 => exact fun _ _ _ h => h); (case hy256 => (refine Or.inl ⟨by rfl, ?_⟩; (intro w hSw); (try dsimp only at hSw); go_simp; (try with_reducible rfl))); (try simp only [Act.put, List.setIfInBounds_toArray, List.set_cons_zero, List.set_cons_succ])); (refine wpAnyH_take (i := 6) (oi := ?oi257) (v := ?v257) ?hi257 (by kernel_rfl) (by kernel_rfl) (by kernel_rfl) ?hq257 ?hy257 (by assumption) ?hr257; (case hi257 => ((simp only [List.getElem?_toArray, List.getElem?_cons_zero, List.getElem?_cons_succ]); exact rfl)); (case hq257 => exact fun _ _ _ h => h); (case hy257 => (refine Or.inl ⟨by rfl, ?_⟩; (intro w hSw); (try dsimp only at hSw); go_simp; (try with_reducible rfl))); (try simp only [Act.put, List.setIfInBounds_toArray, List.set_cons_zero, List.set_cons_succ])); (refine wpAnyH_take (i := 7) (oi := ?oi258) (v := ?v258) ?hi258 (by kernel_rfl) (by kernel_rfl) (by kernel_rfl) ?hq258 ?hy258 (by assumption) ?hr258; (case hi258 => ((simp only [List.getElem?_toArray, List.getElem?_cons_zero, List.getElem?_cons_succ]); exact rfl)); (case hq258 => exact fun _ _ _ h => h); (case hy258 => (refine Or.inl ⟨by rfl, ?_⟩; (intro w hSw); (try dsimp only at hSw); go_simp; (try with_reducible rfl))); (try simp only [Act.put, List.setIfInBounds_toArray, List.set_cons_zero, List.set_cons_succ])); (refine wpAnyH_take (i := 9) (oi := ?oi259) (v := ?v259) ?hi259 (by kernel_rfl) (by kernel_rfl) (by kernel_rfl) ?hq259 ?hy259 (by assumption) ?hr259; (case hi259 => ((simp only [List.getElem?_toArray, List.getElem?_cons_zero, List.getElem?_cons_succ]); exact rfl)); (case hq259 => exact fun _ _ _ h => h); (case hy259 => (refine Or.inl ⟨by rfl, ?_⟩; (intro w hSw); (try dsimp only at hSw); go_simp; (try with_reducible rfl))); (try simp only [Act.put, List.setIfInBounds_toArray, List.set_cons_zero, List.set_cons_succ]))
                refine wpAnyH_ready (rs := [8]) (by kernel_rfl) (by simp) ?_; refine AllReadyH.cons rfl (fun K hK => ?_) AllReadyH.nil; go_simp
                (go_at_call 101; refine (multipleSum_yes _ _ _ _ _ _ _ hm haP hN30 (St.grpOf (by assumption))).mono ?_; rintro e w1 ⟨rfl, hb1⟩)
                go_wp2_with fail
                refine hK.out _ _ ?ks (fun hHeld => ?_); (case ks => (exact St.keep (by assumption) hb1)); clear hK K; (try simp only [Act.put, List.setIfInBounds_toArray, List.set_cons_zero, List.set_cons_succ])
                refine wpAnyH_ready (rs := [10]) (by kernel_rfl) (by simp) ?_; refine AllReadyH.cons rfl (fun K hK => ?_) AllReadyH.nil; go_simp
                (go_at_call 131; refine (fullSet_yes _ _ _ _ _ hm (St.grpOf (by assumption))).mono ?_; rintro e w1 ⟨rfl, hb1⟩)
                go_wp2_with fail
                refine hK.out _ _ ?ks (fun hHeld => ?_); (case ks => (exact St.keep (by assumption) hb1)); clear hK K; (try simp only [Act.put, List.setIfInBounds_toArray, List.set_cons_zero, List.set_cons_succ])
                (refine wpAnyH_take (i := 11) (oi := ?oi260) (v := ?v260) ?hi260 (by kernel_rfl) (by kernel_rfl) (by kernel_rfl) ?hq260 ?hy260 (by assumption) ?hr260; (case hi260 => ((simp only [List.getElem?_toArray, List.getElem?_cons_zero, List.getElem?_cons_succ]); exact rfl)); (case hq260 => exact fun _ _ _ h => h); (case hy260 => (refine Or.inl ⟨by rfl, ?_⟩; (intro w hSw); (try dsimp only at hSw); go_simp; (try with_reducible rfl))); (try simp only [Act.put, List.setIfInBounds_toArray, List.set_cons_zero, List.set_cons_succ])); (refine wpAnyH_take (i := 12) (oi := ?oi261) (v := ?v261) ?hi261 (by kernel_rfl) (by kernel_rfl) (by kernel_rfl) ?hq261 ?hy261 (by assumption) ?hr261; (case hi261 => ((simp only [List.getElem?_toArray, List.getElem?_cons_zero, List.getElem?_cons_succ]); exact rfl)); (case hq261 => exact fun _ _ _ h => h); (case hy261 => (refine Or.inl ⟨by rfl, ?_⟩; (intro w hSw); (try dsimp only at hSw); go_simp; (try with_reducible rfl))); (try simp only [Act.put, List.setIfInBounds_toArray, List.set_cons_zero, List.set_cons_succ]))
                refine wpAnyH_done (by kernel_rfl) ?_ _
                have hst4 : St w b off cap (cst m) w1 := And.right (by assumption)
                go_wp2
                go_ret2
                exact ⟨ret_ibS (by rw [hr.out, he.out]) hk.out.symm, hst4.below⟩
              · have hf' : fullB m N a = false := by simpa using hf
                have hno' : Hid (∀ z, z < a + 1 → fullB m N z = true → ¬ card z = s) := fun z hz hzf => by
                  by_cases e : z = a
                  · subst e; exact absurd hzf hf
                  · exact hno.out z (by omega) hzf
                rw [hf'] at hfi
                clear hcs hf
                go_wp2
                refine wp_region_held_drew (S := fun w' => w'.cell? ⟨w.heap.size, 0, none⟩ = some (.slice (some ⟨b, off, none⟩) (cst m).length cap) ∧ St w b off cap (cst m) w') (by kernel_rfl) ⟨hst0.box, hst0⟩ (fun hHeld => ?_)
                (refine wpAnyH_take (i := 0) (oi := ?oi262) (v := ?v262) ?hi262 (by kernel_rfl) (by kernel_rfl) (by kernel_rfl) ?hq262 ?hy262 (by assumption) ?hr262; (case hi262 => ((simp only [List.getElem?_toArray, List.getElem?_cons_zero]); exact rfl)); (case hq262 => exact fun _ _ _ h => h); (case hy262 => (refine Or.inl ⟨by rfl, ?_⟩; (intro w hSw); (try dsimp only at hSw); go_simp; (try with_reducible rfl))); (try simp only [Act.put, List.setIfInBounds_toArray, List.set_cons_zero, List.set_cons_succ])); (refine wpAnyH_take (i := 2) (oi := ?oi263) (v := ?v263) ?hi263 (by kernel_rfl) (by kernel_rfl) (by kernel_rfl) ?hq263 ?hy263 (by assumption) ?hr263; (case hi263 => ((simp only [List.getElem?_toArray, List.getElem?_cons_zero, List.getElem?_cons_succ]); exact rfl)); (case hq263 => exact fun _ _ _ h => h); (case hy263 => (refine Or.inl ⟨by rfl, ?_⟩; (intro w hSw); (try dsimp only at hSw); go_simp; (try with_reducible rfl))); (try simp only [Act.put, List.setIfInBounds_toArray, List.set_cons_zero, List.set_cons_succ]))
                refine wpAnyH_ready (rs := [1]) (by kernel_rfl) (by simp) ?_; refine AllReadyH.cons rfl (fun K hK => ?_) AllReadyH.nil; go_simp
                (go_at_call 114; refine (bits_any _ _ (by omega)).mono ?_; rintro e w1 ⟨rfl, rfl⟩)
                go_wp2_with fail
                refine hK.out _ _ ?ks (fun hHeld => ?_); (case ks => (assumption)); clear hK K; (try simp only [Act.put, List.setIfInBounds_toArray, List.set_cons_zero, List.set_cons_succ])
                (refine wpAnyH_take (i := 3) (oi := ?oi264) (v := ?v264) ?hi264 (by kernel_rfl) (by kernel_rfl) (by kernel_rfl) ?hq264 ?hy264 (by assumption) ?hr264; (case hi264 => ((simp only [List.getElem?_toArray, List.getElem?_cons_zero, List.getElem?_cons_succ]); exact rfl)); (case hq264 => exact fun _ _ _ h => h); (case hy264 => (refine Or.inl ⟨by rfl, ?_⟩; (intro w hSw); (try dsimp only at hSw); go_simp; (try with_reducible rfl))); (try simp only [Act.put, List.setIfInBounds_toArray, List.set_cons_zero, List.set_cons_succ])); (refine wpAnyH_take (i := 4) (oi := ?oi265) (v := ?v265) ?hi265 (by kernel_rfl) (by kernel_rfl) (by kernel_rfl) ?hq265 ?hy265 (by assumption) ?hr265; (case hi265 => ((simp only [List.getElem?_toArray, List.getElem?_cons_zero, List.getElem?_cons_succ]); exact rfl)); (case hq265 => exact fun _ _ _ h => h); (case hy265 => (refine Or.inl ⟨by rfl, ?_⟩; (intro w hSw); (try dsimp only at hSw); go_simp; (try with_reducible rfl))); (try simp only [Act.put, List.setIfInBounds_toArray, List.set_cons_zero, List.set_cons_succ])); (refine wpAnyH_take (i := 5) (oi := ?oi266) (v := ?v266) ?hi266 (by kernel_rfl) (by kernel_rfl) (by kernel_rfl) ?hq266 ?hy266 (by assumption) ?hr266; (case hi266 => ((simp only [List.getElem?_toArray, List.getElem?_cons_zero, List.getElem?_cons_succ]); exact rfl)); (case hq266 => exact fun _ _ _ h => h); (case hy266 => (refine Or.inl ⟨by rfl, ?_⟩; (intro w hSw); (try dsimp only at hSw); go_simp; (try with_reducible rfl))); (try simp only [Act.put, List.setIfInBounds_toArray, List.set_cons_zero, List.set_cons_succ])); (refine wpAnyH_take (i := 6) (oi := ?oi267) (v := ?v267) ?hi267 (by kernel_rfl) (by kernel_rfl) (by kernel_rfl) ?hq267 ?hy267 (by assumption) ?hr267; (case hi267 => ((simp only [List.getElem?_toArray, List.getElem?_cons_zero, List.getElem?_cons_succ]); exact rfl)); (case hq267 => exact fun _ _ _ h => h); (case hy267 => (refine Or.inl ⟨by rfl, ?_⟩; (intro w hSw); (try dsimp only at hSw); go_simp; (try with_reducible rfl))); (try simp only [Act.put, List.setIfInBounds_toArray, List.set_cons_zero, List.set_cons_succ])); (refine wpAnyH_take (i := 7) (oi := ?oi268) (v := ?v268) ?hi268 (by kernel_rfl) (by kernel_rfl) (by kernel_rfl) ?hq268 ?hy268 (by assumption) ?hr268; (case hi268 => ((simp only [List.getElem?_toArray, List.getElem?_cons_zero, List.getElem?_cons_succ]); exact rfl)); (case hq268 => exact fun _ _ _ h => h); (case hy268 => (refine Or.inl ⟨by rfl, ?_⟩; (intro w hSw); (try dsimp only at hSw); go_simp; (try with_reducible rfl))); (try simp only [Act.put, List.setIfInBounds_toArray, List.set_cons_zero, List.set_cons_succ])); (refine wpAnyH_take (i := 9) (oi := ?oi269) (v := ?v269) ?hi269 (by kernel_rfl) (by kernel_rfl) (by kernel_rfl) ?hq269 ?hy269 (by assumption) ?hr269; (case hi269 => ((simp only [List.getElem?_toArray, List.getElem?_cons_zero, List.getElem?_cons_succ]); exact rfl)); (case hq269 => exact fun _ _ _ h => h); (case hy269 => (refine Or.inl ⟨by rfl, ?_⟩; (intro w hSw); (try dsimp only at hSw); go_simp; (try with_reducible rfl))); (try simp only [Act.put, List.setIfInBounds_toArray, List.set_cons_zero, List.set_cons_succ]))
                refine wpAnyH_ready (rs := [8]) (by kernel_rfl) (by simp) ?_; refine AllReadyH.cons rfl (fun K hK => ?_) AllReadyH.nil; go_simp
                (go_at_call 101; refine (multipleSum_yes _ _ _ _ _ _ _ hm haP hN30 (St.grpOf (by assumption))).mono ?_; rintro e w1 ⟨rfl, hb1⟩)
                go_wp2_with fail
                refine hK.out _ _ ?ks (fun hHeld => ?_); (case ks => (exact St.keep (by assumption) hb1)); clear hK K; (try simp only [Act.put, List.setIfInBounds_toArray, List.set_cons_zero, List.set_cons_succ])
                refine wpAnyH_ready (rs := [10]) (by kernel_rfl) (by simp) ?_; refine AllReadyH.cons rfl (fun K hK => ?_) AllReadyH.nil; go_simp
                (go_at_call 131; refine (fullSet_yes _ _ _ _ _ hm (St.grpOf (by assumption))).mono ?_; rintro e w1 ⟨rfl, hb1⟩)
                go_wp2_with fail
                refine hK.out _ _ ?ks (fun hHeld => ?_); (case ks => (exact St.keep (by assumption) hb1)); clear hK K; (try simp only [Act.put, List.setIfInBounds_toArray, List.set_cons_zero, List.set_cons_succ])
                (refine wpAnyH_take (i := 11) (oi := ?oi270) (v := ?v270) ?hi270 (by kernel_rfl) (by kernel_rfl) (by kernel_rfl) ?hq270 ?hy270 (by assumption) ?hr270; (case hi270 => ((simp only [List.getElem?_toArray, List.getElem?_cons_zero, List.getElem?_cons_succ]); exact rfl)); (case hq270 => exact fun _ _ _ h => h); (case hy270 => (refine Or.inl ⟨by rfl, ?_⟩; (intro w hSw); (try dsimp only at hSw); go_simp; (try with_reducible rfl))); (try simp only [Act.put, List.setIfInBounds_toArray, List.set_cons_zero, List.set_cons_succ])); (refine wpAnyH_take (i := 12) (oi := ?oi271) (v := ?v271) ?hi271 (by kernel_rfl) (by kernel_rfl) (by kernel_rfl) ?hq271 ?hy271 (by assumption) ?hr271; (case hi271 => ((simp only [List.getElem?_toArray, List.getElem?_cons_zero, List.getElem?_cons_succ]); exact rfl)); (case hq271 => exact fun _ _ _ h => h); (case hy271 => (refine Or.inl ⟨by rfl, ?_⟩; (intro w hSw); (try dsimp only at hSw); go_simp; (try with_reducible rfl))); (try simp only [Act.put, List.setIfInBounds_toArray, List.set_cons_zero, List.set_cons_succ]))
                refine wpAnyH_done (by kernel_rfl) ?_ _
                have hst4 : St w b off cap (cst m) w1 := And.right (by assumption)
                go_wp2
                go_roundw
                case rel => exact ⟨a + 1, by go_num, by omega, hno', hst4⟩
                case measure => simp [intOf]; omega
            · have hce : (((card a : Nat) : Int) == (s : Int)) = false := by rw [beq_eq_false_iff_ne]; omega
              have hno' : Hid (∀ z, z < a + 1 → fullB m N z = true → ¬ card z = s) := fun z hz hzf => by
                by_cases e : z = a
                · subst e; exact hcs
                · exact hno.out z (by omega) hzf
              clear hcs
              go_wp2
              refine wp_region_held_drew (S := fun w' => w'.cell? ⟨w.heap.size, 0, none⟩ = some (.slice (some ⟨b, off, none⟩) (cst m).length cap) ∧ St w b off cap (cst m) w') (by kernel_rfl) ⟨hst0.box, hst0⟩ (fun hHeld => ?_)
              (refine wpAnyH_take (i := 0) (oi := ?oi272) (v := ?v272) ?hi272 (by kernel_rfl) (by kernel_rfl) (by kernel_rfl) ?hq272 ?hy272 (by assumption) ?hr272; (case hi272 => ((simp only [List.getElem?_toArray, List.getElem?_cons_zero]); exact rfl)); (case hq272 => exact fun _ _ _ h => h); (case hy272 => (refine Or.inl ⟨by rfl, ?_⟩; (intro w hSw); (try dsimp only at hSw); go_simp; (try with_reducible rfl))); (try simp only [Act.put, List.setIfInBounds_toArray, List.set_cons_zero, List.set_cons_succ])); (refine wpAnyH_take (i := 2) (oi := ?oi273) (v := ?v273) ?hi273 (by kernel_rfl) (by kernel_rfl) (by kernel_rfl) ?hq273 ?hy273 (by assumption) ?hr273; (case hi273 => ((simp only [List.getElem?_toArray, List.getElem?_cons_zero, List.getElem?_cons_succ]); exact rfl)); (case hq273 => exact fun _ _ _ h => h); (case hy273 => (refine Or.inl ⟨by rfl, ?_⟩; (intro w hSw); (try dsimp only at hSw); go_simp; (try with_reducible rfl))); (try simp only [Act.put, List.setIfInBounds_toArray, List.set_cons_zero, List.set_cons_succ]))
              refine wpAnyH_ready (rs := [1]) (by kernel_rfl) (by simp) ?_; refine AllReadyH.cons rfl (fun K hK => ?_) AllReadyH.nil; go_simp
              (go_at_call 114; refine (bits_any _ _ (by omega)).mono ?_; rintro e w1 ⟨rfl, rfl⟩)
              go_wp2_with fail
              refine hK.out _ _ ?ks (fun hHeld => ?_); (case ks => (assumption)); clear hK K; (try simp only [Act.put, List.setIfInBounds_toArray, List.set_cons_zero, List.set_cons_succ])
              (refine wpAnyH_take (i := 3) (oi := ?oi274) (v := ?v274) ?hi274 (by kernel_rfl) (by kernel_rfl) (by kernel_rfl) ?hq274 ?hy274 (by assumption) ?hr274; (case hi274 => ((simp only [List.getElem?_toArray, List.getElem?_cons_zero, List.getElem?_cons_succ]); exact rfl)); (case hq274 => exact fun _ _ _ h => h); (case hy274 => (refine Or.inl ⟨by rfl, ?_⟩; (intro w hSw); (try dsimp only at hSw); go_simp; (try with_reducible rfl))); (try simp only [Act.put, List.setIfInBounds_toArray, List.set_cons_zero, List.set_cons_succ])); (refine wpAnyH_take (i := 4) (oi := ?oi275) (v := ?v275) ?hi275 (by kernel_rfl) (by kernel_rfl) (by kernel_rfl) ?hq275 ?hy275 (by assumption) ?hr275; (case hi275 => ((simp only [List.getElem?_toArray, List.getElem?_cons_zero, List.getElem?_cons_succ]); exact rfl)); (case hq275 => exact fun _ _ _ h => h); (case hy275 => (refine Or.inl ⟨by rfl, ?_⟩; (intro w hSw); (try dsimp only at hSw); go_simp; (try with_reducible rfl))); (try simp only [Act.put, List.setIfInBounds_toArray, List.set_cons_zero, List.set_cons_succ]))
              (refine wpAnyH_take (i := 5) (oi := ?oi276) (v := undef) ?hi276 (by kernel_rfl) (by kernel_rfl) (by kernel_rfl) ?hq276 ?hy276 (by assumption) ?hr276; (case hi276 => ((simp only [List.getElem?_toArray, List.getElem?_cons_zero, List.getElem?_cons_succ]); exact rfl)); (case hq276 => exact fun _ _ _ h => h); (case hy276 => exact Or.inr ⟨by rfl, rfl⟩); (try simp only [Act.put, List.setIfInBounds_toArray, List.set_cons_zero, List.set_cons_succ])); (refine wpAnyH_take (i := 6) (oi := ?oi277) (v := undef) ?hi277 (by kernel_rfl) (by kernel_rfl) (by kernel_rfl) ?hq277 ?hy277 (by assumption) ?hr277; (case hi277 => ((simp only [List.getElem?_toArray, List.getElem?_cons_zero, List.getElem?_cons_succ]); exact rfl)); (case hq277 => exact fun _ _ _ h => h); (case hy277 => exact Or.inr ⟨by rfl, rfl⟩); (try simp only [Act.put, List.setIfInBounds_toArray, List.set_cons_zero, List.set_cons_succ])); (refine wpAnyH_take (i := 7) (oi := ?oi278) (v := undef) ?hi278 (by kernel_rfl) (by kernel_rfl) (by kernel_rfl) ?hq278 ?hy278 (by assumption) ?hr278; (case hi278 => ((simp only [List.getElem?_toArray, List.getElem?_cons_zero, List.getElem?_cons_succ]); exact rfl)); (case hq278 => exact fun _ _ _ h => h); (case hy278 => exact Or.inr ⟨by rfl, rfl⟩); (try simp only [Act.put, List.setIfInBounds_toArray, List.set_cons_zero, List.set_cons_succ])); (refine wpAnyH_take (i := 8) (oi := ?oi279) (v := undef) ?hi279 (by kernel_rfl) (by kernel_rfl) (by kernel_rfl) ?hq279 ?hy279 (by assumption) ?hr279; (case hi279 => ((simp only [List.getElem?_toArray, List.getElem?_cons_zero, List.getElem?_cons_succ]); exact rfl)); (case hq279 => exact fun _ _ _ h => h); (case hy279 => exact Or.inr ⟨by rfl, rfl⟩); (try simp only [Act.put, List.setIfInBounds_toArray, List.set_cons_zero, List.set_cons_succ])); (refine wpAnyH_take (i := 9) (oi := ?oi280) (v := undef) ?hi280 (by kernel_rfl) (by kernel_rfl) (by kernel_rfl) ?hq280 ?hy280 (by assumption) ?hr280; (case hi280 => ((simp only [List.getElem?_toArray, List.getElem?_cons_zero, List.getElem?_cons_succ]); exact rfl)); (case hq280 => exact fun _ _ _ h => h); (case hy280 => exact Or.inr ⟨by rfl, rfl⟩); (try simp only [Act.put, List.setIfInBounds_toArray, List.set_cons_zero, List.set_cons_succ])); (refine wpAnyH_take (i := 10) (oi := ?oi281) (v := undef) ?hi281 (by kernel_rfl) (by kernel_rfl) (by kernel_rfl) ?hq281 ?hy281 (by assumption) ?hr281; (case hi281 => ((simp only [List.getElem?_toArray, List.getElem?_cons_zero, List.getElem?_cons_succ]); exact rfl)); (case hq281 => exact fun _ _ _ h => h); (case hy281 => exact Or.inr ⟨by rfl, rfl⟩); (try simp only [Act.put, List.setIfInBounds_toArray, List.set_cons_zero, List.set_cons_succ])); (refine wpAnyH_take (i := 11) (oi := ?oi282) (v := undef) ?hi282 (by kernel_rfl) (by kernel_rfl) (by kernel_rfl) ?hq282 ?hy282 (by assumption) ?hr282; (case hi282 => ((simp only [List.getElem?_toArray, List.getElem?_cons_zero, List.getElem?_cons_succ]); exact rfl)); (case hq282 => exact fun _ _ _ h => h); (case hy282 => exact Or.inr ⟨by rfl, rfl⟩); (try simp only [Act.put, List.setIfInBounds_toArray, List.set_cons_zero, List.set_cons_succ]))
              (refine wpAnyH_take (i := 12) (oi := ?oi283) (v := ?v283) ?hi283 (by kernel_rfl) (by kernel_rfl) (by kernel_rfl) ?hq283 ?hy283 (by assumption) ?hr283; (case hi283 => ((simp only [List.getElem?_toArray, List.getElem?_cons_zero, List.getElem?_cons_succ]); exact rfl)); (case hq283 => exact fun _ _ _ h => h); (case hy283 => (refine Or.inl ⟨by rfl, ?_⟩; (intro w hSw); (try dsimp only at hSw); go_simp; (try with_reducible rfl))); (try simp only [Act.put, List.setIfInBounds_toArray, List.set_cons_zero, List.set_cons_succ]))
              refine wpAnyH_done (by kernel_rfl) ?_ _
              have hst4 : St w b off cap (cst m) _ := And.right hHeld
              go_wp2
              go_roundw
              case rel => exact ⟨a + 1, by go_num, by omega, hno', hst4⟩
              case measure => simp [intOf]; omega
          · have hs' : Hid (∀ z, z < pw (prodN m) → fullB m N z = true → s + 1 ≤ card z) := fun z hz hzf => by
              have h1 := hs.out z hz hzf
              have h2 := hno.out z (by omega) hzf
              omega
            go_wp2
            go_roundw
            case rel => exact ⟨s + 1, by go_num, by omega, by omega, hs', hstr⟩
            case measure => simp [intOf]; omega
      · exfalso
        have h1 := hs.out _ (by omega) hF.out
        rw [hFc.out] at h1; omega
  · have hn : smOk l n = false := by simpa using h
    have hr := hid (smF_no hn)
    have hk := hid hn
    rcases smOk_no hn with h1 | ⟨h1, h2⟩ | ⟨h1, h2, h3⟩
    all_goals
      clear h hn
      go_enter Try.func103, Try.ntmps103
      go_wp2_with (first | (go_at_call 170; refine (isGroup_any _ _ _ _ _ hl (St.grp (by assumption))).mono ?_; rintro e wN ⟨rfl, hbN⟩; have hstN := St.step (by assumption) hbN; have hboxN := hstN.box; clear hbN) | (go_at_call 130; refine (orderOf_any _ _ _ _ _ hl (St.grp (by assumption))).mono ?_; rintro e wN ⟨rfl, hbN⟩; have hstN := St.step (by assumption) hbN; have hboxN := hstN.box; clear hbN) | (go_at_call 121; refine (within_any _ _ _ _).mono ?_; rintro e wN ⟨rfl, rfl⟩))
      go_ret2
      exact ⟨ret_ibS hr.out.symm hk.out.symm, St.below (by assumption)⟩
set_option maxHeartbeats 1000000 in
theorem sSmallestBasis_any (b off cap : Nat) (l : List Int) (n : Int) (w : World) (hl : l.length ≤ 1099511627776) (hg : GrpAt w b off l) :
    Calls Try.prog 104 #[.agg #[.slice (some ⟨b, off, none⟩) l.length cap], .int .i64 n] w fun e w' => e = .returned (.tuple #[.int .i64 (smF l n), .bool (smOk l n)]) ∧ Below w.heap.size w w' := by
  have hst := St.init cap 26 hg
  clear hg
  by_cases h : smOk l n = true
  · have h0 := smOk_iff h
    obtain ⟨m, N, hm, rfl, rfl, hN1, hN4, h12, hin, hgr⟩ := h0
    have hr := hid (smF_yes h)
    have hk := hid h
    have hP := pw12 h12
    have hpos := hm.pos
    have hN30 : N ≤ 30 := by omega
    have hF := hid (fullB_full hm hN1)
    have hFc := hid (card_full hm.ord)
    have hsh := shl1 (x := prodN m) (by omega)
    have hw1 : IntKind.i64.wrap (((pw (prodN m) : Nat) : Int) - 1) = ((pw (prodN m) - 1 : Nat) : Int) := by rw [IntWalk.i64_left, IntWalk.wrap64_in _ (by omega)]; omega
    have hw2 : wrap64 (((pw (prodN m) : Nat) : Int) - 1) = ((pw (prodN m) - 1 : Nat) : Int) := by rw [IntWalk.wrap64_in _ (by omega)]; omega
    have hc0 : Hid (∀ z, z < 1 → fullB m N z = true → card (pw (prodN m) - 1) < card z ∨ (card (pw (prodN m) - 1) = card z ∧ pw (prodN m) - 1 ≤ z)) := fun z hz hf => by
      have := fullB_card hm hN1 (by omega) hf
      obtain rfl : z = 0 := by omega
      rw [card_zero] at this; omega
    have hce : ∀ z, z < pw (prodN m) → card z = prodN m → z = pw (prodN m) - 1 := fun z hz h => (full_iff_card hm.ord hz).1 h
    have hce' := hid hce
    clear h hce
    go_enter Try.func104, Try.ntmps104
    go_wp2_with (first | (go_at_call 119; refine (sIsGroup_any _ _ _ _ _ hl (St.grp (by assumption))).mono ?_; rintro e wN ⟨rfl, hbN⟩; have hstN := St.step (by assumption) hbN; have hboxN := hstN.box; clear hbN) | (go_at_call 120; refine (l2Order_any _ _ _ _ _ hm (St.grp (by assumption))).mono ?_; rintro e wN ⟨rfl, hbN⟩; have hstN := St.step (by assumption) hbN; have hboxN := hstN.box; clear hbN) | (go_at_call 128; refine (l1In_any _ _ _ _).mono ?_; rintro e wN ⟨rfl, rfl⟩))
    have hst1 : St w b off cap (cst m) wN := by assumption
    clear hst hboxN hsh hw1 hw2
    go_loopw [7, 8] (fun v u wr => ∃ a y : Nat, u = .int .i64 a ∧ v = .int .i64 y ∧ 1 ≤ a ∧ a ≤ pw (prodN m) ∧ y < pw (prodN m) ∧ Hid (fullB m N y = true) ∧ Hid (y = pw (prodN m) - 1 ∨ y < a) ∧ Hid (∀ z, z < a → fullB m N z = true → card y < card z ∨ (card y = card z ∧ y ≤ z)) ∧ St w b off cap (cst m) wr) (fun _ u _ => pw (prodN m) - (intOf u).toNat)
    case atStart => exact ⟨1, pw (prodN m) - 1, rfl, rfl, by omega, by omega, by omega, hF, .inl rfl, hc0, hst1⟩
    case round =>
      clear hst1
      rename_i wr
      obtain ⟨a, y, rfl, rfl, ha1, ha, hy, hyf, hyl, hno, hstr⟩ := hrel
      have hbox := hstr.box
      by_cases hlt : a < pw (prodN m)
      · have ha24 : a < 16777216 := by omega
        have hy24 : y < 16777216 := by omega
        have haP : a < 2 ^ prodN m := hlt
        have hca := card_le a
        have hcy := card_le y
        by_cases hcs : card a < card y
        · have hfi := @fullB_int m N a
          by_cases hf : fullB m N a = true
          · have hno' : Hid (∀ z, z < a + 1 → fullB m N z = true → card a < card z ∨ (card a = card z ∧ a ≤ z)) := fun z hz hzf => by
              by_cases e : z = a
              · subst e; exact .inr ⟨rfl, Nat.le_refl _⟩
              · have := hno.out z (by omega) hzf; omega
            have hf2 := hid hf
            rw [hf] at hfi
            clear hf
            go_wp2_with (first | (go_at_call 116; refine (l3Bits_any _ _ (by omega)).mono ?_; rintro e wN ⟨rfl, rfl⟩) | (go_at_call 171; refine (sMultipleSum_yes _ _ _ _ _ _ _ hm (by assumption) (by assumption) (St.grp (by assumption))).mono ?_; rintro e wN ⟨rfl, hbN⟩; have hstN := St.step (by assumption) hbN; have hboxN := hstN.box; clear hbN))
            have hst2 : St w b off cap (cst m) wN := by assumption
            go_roundw
            case rel => exact ⟨a + 1, a, by go_num, rfl, by omega, by omega, hlt, hf2, .inr (by omega), hno', hst2⟩
            case measure => simp [intOf]; omega
          · have hf' : fullB m N a = false := by simpa using hf
            have hno' : Hid (∀ z, z < a + 1 → fullB m N z = true → card y < card z ∨ (card y = card z ∧ y ≤ z)) := fun z hz hzf => by
              by_cases e : z = a
              · subst e; exact absurd hzf hf
              · exact hno.out z (by omega) hzf
            have hyl' : Hid (y = pw (prodN m) - 1 ∨ y < a + 1) := by have := hyl.out; unfold Hid; omega
            rw [hf'] at hfi
            clear hf
            go_wp2_with (first | (go_at_call 116; refine (l3Bits_any _ _ (by omega)).mono ?_; rintro e wN ⟨rfl, rfl⟩) | (go_at_call 171; refine (sMultipleSum_yes _ _ _ _ _ _ _ hm (by assumption) (by assumption) (St.grp (by assumption))).mono ?_; rintro e wN ⟨rfl, hbN⟩; have hstN := St.step (by assumption) hbN; have hboxN := hstN.box; clear hbN))
            have hst2 : St w b off cap (cst m) wN := by assumption
            go_roundw
            case rel => exact ⟨a + 1, y, by go_num, rfl, by omega, by omega, hy, hyf, hyl', hno', hst2⟩
            case measure => simp [intOf]; omega
        · have hno' : Hid (∀ z, z < a + 1 → fullB m N z = true → card y < card z ∨ (card y = card z ∧ y ≤ z)) := fun z hz hzf => by
            by_cases e : z = a
            · subst e
              rcases (by omega : card y < card z ∨ card y = card z) with h1 | h1
              · exact .inl h1
              · refine .inr ⟨h1, ?_⟩
                rcases hyl.out with h2 | h2
                · have h3 := hFc.out
                  rw [← h2] at h3
                  have := hce'.out z hlt (by omega)
                  omega
                · omega
            · exact hno.out z (by omega) hzf
          have hyl' : Hid (y = pw (prodN m) - 1 ∨ y < a + 1) := by have := hyl.out; unfold Hid; omega
          go_wp2_with (first | (go_at_call 116; refine (l3Bits_any _ _ (by omega)).mono ?_; rintro e wN ⟨rfl, rfl⟩))
          go_roundw
          case rel => exact ⟨a + 1, y, by go_num, rfl, by omega, by omega, hy, hyf, hyl', hno', hstr⟩
          case measure => simp [intOf]; omega
      · have he : Hid (smN m N = y) := smN_eq hy hyf.out fun z hz hzf => hno.out z (by omega) hzf
        go_wp2
        go_ret2
        exact ⟨ret_ibS (by rw [hr.out, he.out]) hk.out.symm, hstr.below⟩
  · have hn : smOk l n = false := by simpa using h
    have hr := hid (smF_no hn)
    have hk := hid hn
    rcases smOk_no hn with h1 | ⟨h1, h2⟩ | ⟨h1, h2, h3⟩
    · clear h hn
      go_enter Try.func104, Try.ntmps104
      go_wp2_with (first | (go_at_call 119; refine (sIsGroup_any _ _ _ _ _ hl (St.grp (by assumption))).mono ?_; rintro e wN ⟨rfl, hbN⟩; have hstN := St.step (by assumption) hbN; have hboxN := hstN.box; clear hbN))
      go_ret2
      exact ⟨ret_ibS hr.out.symm hk.out.symm, St.below (by assumption)⟩
    all_goals
      clear h hn
      obtain ⟨m, hm, rfl⟩ := grp_ok h1
      rw [ordN_yes hm] at h2
      go_enter Try.func104, Try.ntmps104
      go_wp2_with (first | (go_at_call 119; refine (sIsGroup_any _ _ _ _ _ hl (St.grp (by assumption))).mono ?_; rintro e wN ⟨rfl, hbN⟩; have hstN := St.step (by assumption) hbN; have hboxN := hstN.box; clear hbN) | (go_at_call 120; refine (l2Order_any _ _ _ _ _ hm (St.grp (by assumption))).mono ?_; rintro e wN ⟨rfl, hbN⟩; have hstN := St.step (by assumption) hbN; have hboxN := hstN.box; clear hbN) | (go_at_call 128; refine (l1In_any _ _ _ _).mono ?_; rintro e wN ⟨rfl, rfl⟩))
      go_ret2
      exact ⟨ret_ibS hr.out.symm hk.out.symm, St.below (by assumption)⟩
end Go.Proofs.Ytpflnmcecnbilaa
