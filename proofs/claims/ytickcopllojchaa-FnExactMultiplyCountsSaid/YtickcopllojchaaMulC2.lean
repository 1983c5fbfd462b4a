/-
  Contracts: lists of counts multiplied, as the reference does it.
-/
import Derived.Test.YtickcopllojchaaMulC
namespace Go.Proofs.Ytickcopllojchaa
open Go.RowKit

theorem mulB_no {P Q : List Int} (h : cntOk P Q = false) : l7B P = false ∨ (l7B P = true ∧ l7B Q = false) ∨ (l7B P = true ∧ l7B Q = true ∧ ¬ P.length = Q.length) := by
  rcases l7B_no h with h1 | ⟨_, h1⟩ | ⟨_, h1, h2⟩ | ⟨_, h1, h2, h3⟩
  · left
    have : lenOk P = false := by unfold lenOk; exact inB_no (by omega)
    unfold l7B; rw [this, Bool.and_false]
  · exact .inl h1
  · exact .inr (.inl ⟨h1, h2⟩)
  · exact .inr (.inr ⟨h1, h2, h3⟩)
set_option maxHeartbeats 2000000 in
theorem sMultiplyCounts_any (b cap : Nat) (P : List Int) (b2 cap2 : Nat) (Q : List Int) (w : World) (hP : P.length ≤ 1099511627776) (hQ : Q.length ≤ 1099511627776) (hg : GrpAt w b 0 P) (hg2 : GrpAt w b2 0 Q) :
    Calls Try.prog 21 #[.slice (some ⟨b, 0, none⟩) P.length cap, .slice (some ⟨b2, 0, none⟩) Q.length cap2] w (RetInts w (mulF P Q)) := by
  obtain ⟨i0, hi, hz0, hz1, hz2⟩ := info_parts info_int
  have e7 : ∀ (b cap : Nat) (P : List Int) (w : World) (hP : P.length ≤ 1099511627776) (hg : GrpAt w b 0 P), Calls Try.prog 47 #[.slice (some ⟨b, 0, none⟩) P.length cap] w fun e w' => e = .returned (.bool (l7B P)) ∧ w = w' := l7Counts_any
  have h7 := hid e7
  clear e7
  by_cases h : cntOk P Q = true
  · have hr := hid (mulF_yes h)
    have hbd := hid (cnt_bd h)
    obtain ⟨h1, h2, h3, h4, h5⟩ := cntOk_yes h
    have hml := hid (cnt_mul h1 h2)
    have hlen : Q.length ≤ 24 ∧ P.length ≤ Q.length ∧ Q.length ≤ P.length := by omega
    obtain ⟨l1, l2, l3⟩ := l7B_yes h
    have hle : ((P.length : Int) != (Q.length : Int)) = false := by rw [h3]; simp
    clear h1 h2 h3 l3
    go_enter Try.func21, Try.ntmps21
    go_wp2_with fail
    refine (h7.out _ _ _ _ hP hg).mono ?_; rintro e w1 ⟨rfl, rfl⟩; rw [l1]
    go_wp2_with fail
    refine (h7.out _ _ _ _ hQ hg2).mono ?_; rintro e w1 ⟨rfl, rfl⟩; rw [l2]
    go_wp2_with (refine wpList_make_full _ rfl _ _ 22 rfl w.heap.size 3 i0 (.int .i64 0) 1 Try.underlying22 hi hz0 hz1 .i64 .i64 _ _ P.length rfl rfl rfl rfl ?c2 ?c3 ?c4 ?_)
    case c2 => rw [hz2]; omega
    case c3 => simp only [maxLen]; omega
    case c4 => exact Nat.le_refl _
    intro w2 hown hgr
    have hmk := Made.make (Below.refl _ _) hown hgr
    have hbg := hg.blt
    have hbg2 := hg2.blt
    have hnb : b ≠ w.heap.size ∧ b2 ≠ w.heap.size := by omega
    clear hown hgr h
    have hsl := hid (outMul_len (cyc P.length) P Q P.length)
    go_wp2
    go_loopw [6] (fun u wr => ∃ i : Nat, u = .int .i64 i ∧ i ≤ P.length ∧ Made w (outMul (cyc P.length) P Q P.length i) w.heap.size P.length wr) (fun u _ => P.length - (intOf u).toNat)
    case atStart => exact ⟨0, rfl, by omega, hmk⟩
    case round =>
      clear hmk
      rename_i wr
      obtain ⟨i, rfl, hi1, hout⟩ := hrel
      by_cases hlt : i < P.length
      · have hcx := (hg.below hout.below).cell0 i hlt
        obtain ⟨x, hx⟩ : ∃ x, Hid (P.getD i 0 = x) := ⟨_, rfl⟩
        rw [hx.out] at hcx
        have hin := hid (inMul_len (cyc P.length) P Q i (outMul (cyc P.length) P Q P.length i))
        have hbi : Hid (∀ k z, k ≤ Q.length → -1000000000 ≤ (inMul (cyc P.length) P Q i (outMul (cyc P.length) P Q P.length i) k).getD z 0 ∧ (inMul (cyc P.length) P Q i (outMul (cyc P.length) P Q P.length i) k).getD z 0 ≤ 1000000000) := fun k z hk => hbd.out i k z hlt hk
        have hmi : Hid (∀ k, k < Q.length → -1000000 ≤ x * Q.getD k 0 ∧ x * Q.getD k 0 ≤ 1000000) := fun k hk => by rw [← hx.out]; exact hml.out i k hlt hk
        have hstart : Hid (Made w (inMul (cyc P.length) P Q i (outMul (cyc P.length) P Q P.length i) 0) w.heap.size P.length wr) := hout
        clear hout
        go_wp2
        go_loopw [7] (fun u wr => ∃ k : Nat, u = .int .i64 k ∧ k ≤ Q.length ∧ Made w (inMul (cyc P.length) P Q i (outMul (cyc P.length) P Q P.length i) k) w.heap.size P.length wr) (fun u _ => Q.length - (intOf u).toNat)
        case atStart => exact ⟨0, rfl, by omega, hstart.out⟩
        case round =>
          clear hstart hcx
          rename_i wr
          obtain ⟨k, rfl, hk1, hout⟩ := hrel
          by_cases hlk : k < Q.length
          · have hcy := (hg2.below hout.below).cell0 k hlk
            obtain ⟨y, hy⟩ : ∃ y, Hid (Q.getD k 0 = y) := ⟨_, rfl⟩
            rw [hy.out] at hcy
            have hxy := hmi.out k hlk
            rw [hy.out] at hxy
            have hzl : cyc P.length i k < P.length := Nat.mod_lt _ (by omega)
            have hz : ((i : Int) + (k : Int)).tmod (P.length : Int) = ((cyc P.length i k : Nat) : Int) := by unfold cyc; rw [← Int.natCast_add]; exact (Int.ofNat_tmod _ _).symm
            have hnx : Hid (inMul (cyc P.length) P Q i (outMul (cyc P.length) P Q P.length i) (k + 1) = (inMul (cyc P.length) P Q i (outMul (cyc P.length) P Q P.length i) k).set (cyc P.length i k) ((inMul (cyc P.length) P Q i (outMul (cyc P.length) P Q P.length i) k).getD (cyc P.length i k) 0 + x * y)) := by
              unfold Hid; rw [inMul, hx.out, hy.out]
            have hbo := hbi.out k (cyc P.length i k) (by omega)
            have hco := hout.drew.cell (cyc P.length i k) (by rw [hin.out, hsl.out]; exact hzl)
            have hfo := hout.drew.frozen (cyc P.length i k)
            have hst := hout.drew.store (cyc P.length i k) ((inMul (cyc P.length) P Q i (outMul (cyc P.length) P Q P.length i) k).getD (cyc P.length i k) 0 + x * y)
            rw [← hnx.out] at hst
            generalize (inMul (cyc P.length) P Q i (outMul (cyc P.length) P Q P.length i) k).getD (cyc P.length i k) 0 = o at *
            generalize cyc P.length i k = z at *
            have hw1 : IntKind.i64.wrap ((i : Int) + (k : Int)) = (i : Int) + (k : Int) := by rw [IntWalk.i64_left, IntWalk.wrap64_in _ (by omega)]
            have hw2 : IntKind.i64.wrap (x * y) = x * y := by rw [IntWalk.i64_left, IntWalk.wrap64_in _ (by omega)]
            have hw3 : IntKind.i64.wrap (o + x * y) = o + x * y := by rw [IntWalk.i64_left, IntWalk.wrap64_in _ (by omega)]
            have hn0 : ¬ P = [] := by intro e; subst e; simp at hlt
            have hz0' : (0 : Int) ≤ (z : Int) := by omega
            have hzl' : (z : Int) < (P.length : Int) := by omega
            have hst0 := hout.drew
            have hi1' : (0 : Int) ≤ (i : Int) := by omega
            have hi2' : (i : Int) < (P.length : Int) := by omega
            have hi3' : (0 : Int) ≤ (k : Int) := by omega
            have hi4' : (k : Int) < (Q.length : Int) := by omega
            clear hout hnx hcy
            go_wp2
            have hcx := (hg.below hst0.below).cell0 i hlt
            have hcy0 := (hg2.below hst0.below).cell0 k hlk
            have hcx' := (hg.below hst.below).cell0 i hlt
            have hcy' := (hg2.below hst.below).cell0 k hlk
            rw [hx.out] at hcx hcx'
            rw [hy.out] at hcy0 hcy'
            refine wp_region_held_drew (S := fun w' => w'.cell? ⟨b, i, none⟩ = some (.int .i64 x) ∧ w'.cell? ⟨b2, k, none⟩ = some (.int .i64 y)) (by kernel_rfl) ⟨hcx, hcy0⟩ (fun hHeld => ?_)
            (refine wpAnyH_take (i := 0) (oi := ?oi121) (v := ?v121) ?hi121 (by kernel_rfl) (by kernel_rfl) (by kernel_rfl) ?hq121 ?hy121 (by assumption) ?hr121; (case hi121 => ((simp only [List.getElem?_toArray, List.getElem?_cons_zero]); exact rfl)); (case hq121 => exact fun _ _ _ h => h); (case hy121 => (refine Or.inl ⟨by rfl, ?_⟩; (intro w hSw); (try dsimp only at hSw); go_simp; (try with_reducible rfl))); (try simp only [Act.put, List.setIfInBounds_toArray, List.set_cons_zero, List.set_cons_succ])); (refine wpAnyH_take (i := 1) (oi := ?oi122) (v := ?v122) ?hi122 (by kernel_rfl) (by kernel_rfl) (by kernel_rfl) ?hq122 ?hy122 (by assumption) ?hr122; (case hi122 => ((simp only [List.getElem?_toArray, List.getElem?_cons_zero, List.getElem?_cons_succ]); exact rfl)); (case hq122 => exact fun _ _ _ h => h); (case hy122 => (refine Or.inl ⟨by rfl, ?_⟩; (intro w hSw); (try dsimp only at hSw); go_simp; (try with_reducible rfl))); (try simp only [Act.put, List.setIfInBounds_toArray, List.set_cons_zero, List.set_cons_succ])); (refine wpAnyH_take (i := 2) (oi := ?oi123) (v := ?v123) ?hi123 (by kernel_rfl) (by kernel_rfl) (by kernel_rfl) ?hq123 ?hy123 (by assumption) ?hr123; (case hi123 => ((simp only [List.getElem?_toArray, List.getElem?_cons_zero, List.getElem?_cons_succ]); exact rfl)); (case hq123 => exact fun _ _ _ h => h); (case hy123 => (refine Or.inl ⟨by rfl, ?_⟩; (intro w hSw); (try dsimp only at hSw); go_simp; (try with_reducible rfl))); (try simp only [Act.put, List.setIfInBounds_toArray, List.set_cons_zero, List.set_cons_succ])); (refine wpAnyH_take (i := 3) (oi := ?oi124) (v := ?v124) ?hi124 (by kernel_rfl) (by kernel_rfl) (by kernel_rfl) ?hq124 ?hy124 (by assumption) ?hr124; (case hi124 => ((simp only [List.getElem?_toArray, List.getElem?_cons_zero, List.getElem?_cons_succ]); exact rfl)); (case hq124 => exact fun _ _ _ h => h); (case hy124 => (refine Or.inl ⟨by rfl, ?_⟩; (intro w hSw); (try dsimp only at hSw); go_simp; (try with_reducible rfl))); (try simp only [Act.put, List.setIfInBounds_toArray, List.set_cons_zero, List.set_cons_succ])); (refine wpAnyH_take (i := 4) (oi := ?oi125) (v := ?v125) ?hi125 (by kernel_rfl) (by kernel_rfl) (by kernel_rfl) ?hq125 ?hy125 (by assumption) ?hr125; (case hi125 => ((simp only [List.getElem?_toArray, List.getElem?_cons_zero, List.getElem?_cons_succ]); exact rfl)); (case hq125 => exact fun _ _ _ h => h); (case hy125 => (refine Or.inl ⟨by rfl, ?_⟩; (intro w hSw); (try dsimp only at hSw); go_simp; (try with_reducible rfl))); (try simp only [Act.put, List.setIfInBounds_toArray, List.set_cons_zero, List.set_cons_succ])); (refine wpAnyH_take (i := 5) (oi := ?oi126) (v := ?v126) ?hi126 (by kernel_rfl) (by kernel_rfl) (by kernel_rfl) ?hq126 ?hy126 (by assumption) ?hr126; (case hi126 => ((simp only [List.getElem?_toArray, List.getElem?_cons_zero, List.getElem?_cons_succ]); exact rfl)); (case hq126 => exact fun _ _ _ h => h); (case hy126 => (refine Or.inl ⟨by rfl, ?_⟩; (intro w hSw); (try dsimp only at hSw); go_simp; (try with_reducible rfl))); (try simp only [Act.put, List.setIfInBounds_toArray, List.set_cons_zero, List.set_cons_succ])); (refine wpAnyH_take (i := 6) (oi := ?oi127) (v := ?v127) ?hi127 (by kernel_rfl) (by kernel_rfl) (by kernel_rfl) ?hq127 ?hy127 (by assumption) ?hr127; (case hi127 => ((simp only [List.getElem?_toArray, List.getElem?_cons_zero, List.getElem?_cons_succ]); exact rfl)); (case hq127 => exact fun _ _ _ h => h); (case hy127 => (refine Or.inl ⟨by rfl, ?_⟩; (intro w hSw); (try dsimp only at hSw); go_simp; (try with_reducible rfl))); (try simp only [Act.put, List.setIfInBounds_toArray, List.set_cons_zero, List.set_cons_succ])); (refine wpAnyH_take (i := 7) (oi := ?oi128) (v := ?v128) ?hi128 (by kernel_rfl) (by kernel_rfl) (by kernel_rfl) ?hq128 ?hy128 (by assumption) ?hr128; (case hi128 => ((simp only [List.getElem?_toArray, List.getElem?_cons_zero, List.getElem?_cons_succ]); exact rfl)); (case hq128 => exact fun _ _ _ h => h); (case hy128 => (refine Or.inl ⟨by rfl, ?_⟩; (intro w hSw); (try dsimp only at hSw); go_simp; (try with_reducible rfl))); (try simp only [Act.put, List.setIfInBounds_toArray, List.set_cons_zero, List.set_cons_succ])); (refine wpAnyH_take (i := 8) (oi := ?oi129) (v := ?v129) ?hi129 (by kernel_rfl) (by kernel_rfl) (by kernel_rfl) ?hq129 ?hy129 (by assumption) ?hr129; (case hi129 => ((simp only [List.getElem?_toArray, List.getElem?_cons_zero, List.getElem?_cons_succ]); exact rfl)); (case hq129 => exact fun _ _ _ h => h); (case hy129 => (refine Or.inl ⟨by rfl, ?_⟩; (intro w hSw); (try dsimp only at hSw); go_simp; (try with_reducible rfl))); (try simp only [Act.put, List.setIfInBounds_toArray, List.set_cons_zero, List.set_cons_succ])); (refine wpAnyH_take (i := 9) (oi := ?oi130) (v := ?v130) ?hi130 (by kernel_rfl) (by kernel_rfl) (by kernel_rfl) ?hq130 ?hy130 (by assumption) ?hr130; (case hi130 => ((simp only [List.getElem?_toArray, List.getElem?_cons_zero, List.getElem?_cons_succ]); exact rfl)); (case hq130 => exact fun _ _ _ h => h); (case hy130 => (refine Or.inl ⟨by rfl, ?_⟩; (intro w hSw); (try dsimp only at hSw); go_simp; (try with_reducible rfl))); (try simp only [Act.put, List.setIfInBounds_toArray, List.set_cons_zero, List.set_cons_succ])); (refine wpAnyH_take (i := 10) (oi := ?oi131) (v := ?v131) ?hi131 (by kernel_rfl) (by kernel_rfl) (by kernel_rfl) ?hq131 ?hy131 (by assumption) ?hr131; (case hi131 => ((simp only [List.getElem?_toArray, List.getElem?_cons_zero, List.getElem?_cons_succ]); exact rfl)); (case hq131 => exact fun _ _ _ h => h); (case hy131 => (refine Or.inl ⟨by rfl, ?_⟩; (intro w hSw); (try dsimp only at hSw); go_simp; (try with_reducible rfl))); (try simp only [Act.put, List.setIfInBounds_toArray, List.set_cons_zero, List.set_cons_succ])); (refine wpAnyH_take (i := 11) (oi := ?oi132) (v := ?v132) ?hi132 (by kernel_rfl) (by kernel_rfl) (by kernel_rfl) ?hq132 ?hy132 (by assumption) ?hr132; (case hi132 => ((simp only [List.getElem?_toArray, List.getElem?_cons_zero, List.getElem?_cons_succ]); exact rfl)); (case hq132 => exact fun _ _ _ h => h); (case hy132 => (refine Or.inl ⟨by rfl, ?_⟩; (intro w hSw); (try dsimp only at hSw); go_simp; (try with_reducible rfl))); (try simp only [Act.put, List.setIfInBounds_toArray, List.set_cons_zero, List.set_cons_succ])); (refine wpAnyH_take (i := 12) (oi := ?oi133) (v := ?v133) ?hi133 (by kernel_rfl) (by kernel_rfl) (by kernel_rfl) ?hq133 ?hy133 (by assumption) ?hr133; (case hi133 => ((simp only [List.getElem?_toArray, List.getElem?_cons_zero, List.getElem?_cons_succ]); exact rfl)); (case hq133 => exact fun _ _ _ h => h); (case hy133 => (refine Or.inl ⟨by rfl, ?_⟩; (intro w hSw); (try dsimp only at hSw); go_simp; (try with_reducible rfl))); (try simp only [Act.put, List.setIfInBounds_toArray, List.set_cons_zero, List.set_cons_succ])); (refine wpAnyH_take (i := 13) (oi := ?oi134) (v := ?v134) ?hi134 (by kernel_rfl) (by kernel_rfl) (by kernel_rfl) ?hq134 ?hy134 (by assumption) ?hr134; (case hi134 => ((simp only [List.getElem?_toArray, List.getElem?_cons_zero, List.getElem?_cons_succ]); exact rfl)); (case hq134 => exact fun _ _ _ h => h); (case hy134 => (refine Or.inl ⟨by rfl, ?_⟩; (intro w hSw); (try dsimp only at hSw); go_simp; (try with_reducible rfl))); (try simp only [Act.put, List.setIfInBounds_toArray, List.set_cons_zero, List.set_cons_succ])); (refine wpAnyH_take (i := 14) (oi := ?oi135) (v := ?v135) ?hi135 (by kernel_rfl) (by kernel_rfl) (by kernel_rfl) ?hq135 ?hy135 (by assumption) ?hr135; (case hi135 => ((simp only [List.getElem?_toArray, List.getElem?_cons_zero, List.getElem?_cons_succ]); exact rfl)); (case hq135 => exact fun _ _ _ h => h); (case hy135 => (refine Or.inl ⟨by rfl, ?_⟩; (intro w hSw); (try dsimp only at hSw); go_simp; (try with_reducible rfl))); (try simp only [Act.put, List.setIfInBounds_toArray, List.set_cons_zero, List.set_cons_succ])); (refine wpAnyH_take (i := 16) (oi := ?oi136) (v := ?v136) ?hi136 (by kernel_rfl) (by kernel_rfl) (by kernel_rfl) ?hq136 ?hy136 (by assumption) ?hr136; (case hi136 => ((simp only [List.getElem?_toArray, List.getElem?_cons_zero, List.getElem?_cons_succ]); exact rfl)); (case hq136 => exact fun _ _ _ h => h); (case hy136 => (refine Or.inl ⟨by rfl, ?_⟩; (intro w hSw); (try dsimp only at hSw); go_simp; (try with_reducible rfl))); (try simp only [Act.put, List.setIfInBounds_toArray, List.set_cons_zero, List.set_cons_succ])); (refine wpAnyH_take (i := 17) (oi := ?oi137) (v := ?v137) ?hi137 (by kernel_rfl) (by kernel_rfl) (by kernel_rfl) ?hq137 ?hy137 (by assumption) ?hr137; (case hi137 => ((simp only [List.getElem?_toArray, List.getElem?_cons_zero, List.getElem?_cons_succ]); exact rfl)); (case hq137 => exact fun _ _ _ h => h); (case hy137 => (refine Or.inl ⟨by rfl, ?_⟩; (intro w hSw); (try dsimp only at hSw); go_simp; (try with_reducible rfl))); (try simp only [Act.put, List.setIfInBounds_toArray, List.set_cons_zero, List.set_cons_succ])); (refine wpAnyH_take (i := 18) (oi := ?oi138) (v := ?v138) ?hi138 (by kernel_rfl) (by kernel_rfl) (by kernel_rfl) ?hq138 ?hy138 (by assumption) ?hr138; (case hi138 => ((simp only [List.getElem?_toArray, List.getElem?_cons_zero, List.getElem?_cons_succ]); exact rfl)); (case hq138 => exact fun _ _ _ h => h); (case hy138 => (refine Or.inl ⟨by rfl, ?_⟩; (intro w hSw); (try dsimp only at hSw); go_simp; (try with_reducible rfl))); (try simp only [Act.put, List.setIfInBounds_toArray, List.set_cons_zero, List.set_cons_succ])); (refine wpAnyH_take (i := 19) (oi := ?oi139) (v := ?v139) ?hi139 (by kernel_rfl) (by kernel_rfl) (by kernel_rfl) ?hq139 ?hy139 (by assumption) ?hr139; (case hi139 => ((simp only [List.getElem?_toArray, List.getElem?_cons_zero, List.getElem?_cons_succ]); exact rfl)); (case hq139 => exact fun _ _ _ h => h); (case hy139 => (refine Or.inl ⟨by rfl, ?_⟩; (intro w hSw); (try dsimp only at hSw); go_simp; (try with_reducible rfl))); (try simp only [Act.put, List.setIfInBounds_toArray, List.set_cons_zero, List.set_cons_succ])); (refine wpAnyH_take (i := 20) (oi := ?oi140) (v := ?v140) ?hi140 (by kernel_rfl) (by kernel_rfl) (by kernel_rfl) ?hq140 ?hy140 (by assumption) ?hr140; (case hi140 => ((simp only [List.getElem?_toArray, List.getElem?_cons_zero, List.getElem?_cons_succ]); exact rfl)); (case hq140 => exact fun _ _ _ h => h); (case hy140 => (refine Or.inl ⟨by rfl, ?_⟩; (intro w hSw); (try dsimp only at hSw); go_simp; (try with_reducible rfl))); (try simp only [Act.put, List.setIfInBounds_toArray, List.set_cons_zero, List.set_cons_succ])); (refine wpAnyH_take (i := 21) (oi := ?oi141) (v := ?v141) ?hi141 (by kernel_rfl) (by kernel_rfl) (by kernel_rfl) ?hq141 ?hy141 (by assumption) ?hr141; (case hi141 => ((simp only [List.getElem?_toArray, List.getElem?_cons_zero, List.getElem?_cons_succ]); exact rfl)); (case hq141 => exact fun _ _ _ h => h); (case hy141 => (refine Or.inl ⟨by rfl, ?_⟩; (intro w hSw); (try dsimp only at hSw); go_simp; (try with_reducible rfl))); (try simp only [Act.put, List.setIfInBounds_toArray, List.set_cons_zero, List.set_cons_succ])); (refine wpAnyH_take (i := 22) (oi := ?oi142) (v := ?v142) ?hi142 (by kernel_rfl) (by kernel_rfl) (by kernel_rfl) ?hq142 ?hy142 (by assumption) ?hr142; (case hi142 => ((simp only [List.getElem?_toArray, List.getElem?_cons_zero, List.getElem?_cons_succ]); exact rfl)); (case hq142 => exact fun _ _ _ h => h); (case hy142 => (refine Or.inl ⟨by rfl, ?_⟩; (intro w hSw); (try dsimp only at hSw); go_simp; (try with_reducible rfl))); (try simp only [Act.put, List.setIfInBounds_toArray, List.set_cons_zero, List.set_cons_succ])); (refine wpAnyH_take (i := 23) (oi := ?oi143) (v := ?v143) ?hi143 (by kernel_rfl) (by kernel_rfl) (by kernel_rfl) ?hq143 ?hy143 (by assumption) ?hr143; (case hi143 => ((simp only [List.getElem?_toArray, List.getElem?_cons_zero, List.getElem?_cons_succ]); exact rfl)); (case hq143 => exact fun _ _ _ h => h); (case hy143 => (refine Or.inl ⟨by rfl, ?_⟩; (intro w hSw); (try dsimp only at hSw); go_simp; (try with_reducible rfl))); (try simp only [Act.put, List.setIfInBounds_toArray, List.set_cons_zero, List.set_cons_succ])); (refine wpAnyH_take (i := 24) (oi := ?oi144) (v := ?v144) ?hi144 (by kernel_rfl) (by kernel_rfl) (by kernel_rfl) ?hq144 ?hy144 (by assumption) ?hr144; (case hi144 => ((simp only [List.getElem?_toArray, List.getElem?_cons_zero, List.getElem?_cons_succ]); exact rfl)); (case hq144 => exact fun _ _ _ h => h); (case hy144 => (refine Or.inl ⟨by rfl, ?_⟩; (intro w hSw); (try dsimp only at hSw); go_simp; (try with_reducible rfl))); (try simp only [Act.put, List.setIfInBounds_toArray, List.set_cons_zero, List.set_cons_succ]))
            refine wpAnyH_ready (rs := [15]) (by kernel_rfl) (by simp) ?_; refine AllReadyH.cons rfl (fun K hK => ?_) AllReadyH.nil; go_simp
            refine hK.out _ _ ?ks (fun hHeld => ?_); (case ks => (exact ⟨hcx, hcy0⟩)); clear hK K; (try simp only [Act.put, List.setIfInBounds_toArray, List.set_cons_zero, List.set_cons_succ])
            (refine wpAnyH_take (i := 25) (oi := ?oi145) (v := ?v145) ?hi145 (by kernel_rfl) (by kernel_rfl) (by kernel_rfl) ?hq145 ?hy145 (by assumption) ?hr145; (case hi145 => ((simp only [List.getElem?_toArray, List.getElem?_cons_zero, List.getElem?_cons_succ]); exact rfl)); (case hq145 => exact fun _ _ _ h => h); (case hy145 => (refine Or.inl ⟨by rfl, ?_⟩; (intro w hSw); (try dsimp only at hSw); go_simp; (try with_reducible rfl))); (try simp only [Act.put, List.setIfInBounds_toArray, List.set_cons_zero, List.set_cons_succ])); (refine wpAnyH_take (i := 26) (oi := ?oi146) (v := ?v146) ?hi146 (by kernel_rfl) (by kernel_rfl) (by kernel_rfl) ?hq146 ?hy146 (by assumption) ?hr146; (case hi146 => ((simp only [List.getElem?_toArray, List.getElem?_cons_zero, List.getElem?_cons_succ]); exact rfl)); (case hq146 => exact fun _ _ _ h => h); (case hy146 => (refine Or.inl ⟨by rfl, ?_⟩; (intro w hSw); (try dsimp only at hSw); go_simp; (try with_reducible rfl))); (try simp only [Act.put, List.setIfInBounds_toArray, List.set_cons_zero, List.set_cons_succ]))
            refine wpAnyH_ready (rs := [27]) (by kernel_rfl) (by simp) ?_; refine AllReadyH.cons rfl (fun K hK => ?_) AllReadyH.nil; go_simp
            refine hK.out _ _ ?ks (fun hHeld => ?_); (case ks => exact ⟨hcx', hcy'⟩); clear hK K
            refine wpAnyH_done (by kernel_rfl) ?_ _
            go_wp2
            go_roundw
            case rel => exact ⟨k + 1, by go_num, by omega, hst⟩
            case measure => simp [intOf]; omega
          · have hnx : Hid (inMul (cyc P.length) P Q i (outMul (cyc P.length) P Q P.length i) k = outMul (cyc P.length) P Q P.length (i + 1)) := by unfold Hid; rw [outMul, show k = Q.length from by omega]
            rw [hnx.out] at hout
            go_wp2
            go_roundw
            case rel => exact ⟨i + 1, by go_num, by omega, hout⟩
            case measure => simp [intOf]; omega
      · have hend : Hid (outMul (cyc P.length) P Q P.length i = mulF P Q) := by unfold Hid; rw [hr.out, show i = P.length from by omega]
        have hlm : Hid ((mulF P Q).length = P.length) := by unfold Hid; rw [← hend.out, hsl.out]
        rw [hend.out] at hout
        have hfin : Hid (RetInts w (mulF P Q) (.returned (.slice (some ⟨w.heap.size, 0, none⟩) P.length P.length)) wr) := ⟨w.heap.size, P.length, by rw [hlm.out], hout⟩
        go_wp2
        go_ret
        exact hfin.out
  · have hn : cntOk P Q = false := by simpa using h
    have hr := hid (mulF_no hn)
    clear h
    have hc := mulB_no hn
    clear hn
    have hgr1 := Growing.start' (w := w) #[] rfl
    rcases hc with h1 | ⟨h1, h2⟩ | ⟨h1, h2, h3⟩
    · go_enter Try.func21, Try.ntmps21
      go_wp2_with fail
      refine (h7.out _ _ _ _ hP hg).mono ?_; rintro e w1 ⟨rfl, rfl⟩; rw [h1]
      go_wp2
      go_ret
      rw [hr.out]
      exact hgr1.ret
    · go_enter Try.func21, Try.ntmps21
      go_wp2_with fail
      refine (h7.out _ _ _ _ hP hg).mono ?_; rintro e w1 ⟨rfl, rfl⟩; rw [h1]
      go_wp2_with fail
      refine (h7.out _ _ _ _ hQ hg2).mono ?_; rintro e w1 ⟨rfl, rfl⟩; rw [h2]
      go_wp2
      go_ret
      rw [hr.out]
      exact hgr1.ret
    · have hle : ((P.length : Int) != (Q.length : Int)) = true := by rw [bne_iff_ne]; omega
      clear h3
      go_enter Try.func21, Try.ntmps21
      go_wp2_with fail
      refine (h7.out _ _ _ _ hP hg).mono ?_; rintro e w1 ⟨rfl, rfl⟩; rw [h1]
      go_wp2_with fail
      refine (h7.out _ _ _ _ hQ hg2).mono ?_; rintro e w1 ⟨rfl, rfl⟩; rw [h2]
      go_wp2
      go_ret
      rw [hr.out]
      exact hgr1.ret
end Go.Proofs.Ytickcopllojchaa
