/-
  Contracts: tables over a group, folded, as the reference does it.
-/
import Derived.Test.YtickcopllojchaaConvo
namespace Go.Proofs.Ytickcopllojchaa
open Go.RowKit

set_option maxHeartbeats 1000000 in
theorem l8Table_any (b off cap : Nat) (l : List Int) (b2 cap2 : Nat) (P : List Int) (w : World) (hl : l.length ≤ 1099511627776) (hP : P.length ≤ 1099511627776) (hg : GrpAt w b off l) (hg2 : GrpAt w b2 0 P) :
    Calls Try.prog 54 #[.agg #[.slice (some ⟨b, off, none⟩) l.length cap], .slice (some ⟨b2, 0, none⟩) P.length cap2] w fun e w' => e = .returned (.bool (tabB l P)) ∧ Below w.heap.size w w' := by
  have hst := St.init cap 32 hg
  have hg21 := hg2.below hst.below
  clear hg hg2
  go_enter Try.func54, Try.ntmps54
  go_wp2
  go_loop [5] (fun i => ∃ k : Nat, i = .int .i64 k ∧ k ≤ P.length ∧ Hid (∀ j, j < k → inB (P.getD j 0) (-10000) 10000 = true)) (fun i => P.length - (intOf i).toNat)
  case atStart => exact ⟨0, rfl, by omega, fun j hj => by omega⟩
  case round =>
    obtain ⟨k, rfl, hk, hall⟩ := hrel
    by_cases hlt : k < P.length
    · have hck := hg21.cell0 k hlt
      by_cases hin : inB (P.getD k 0) (-10000) 10000 = true
      · have hall' : Hid (∀ j, j < k + 1 → inB (P.getD j 0) (-10000) 10000 = true) := fun j hj => by
          by_cases e : j = k
          · rw [e]; exact hin
          · exact hall.out j (by omega)
        generalize P.getD k 0 = x at *
        go_wp2_with fail
        refine (l1In_any _ _ _ _).mono ?_; rintro e w3 ⟨rfl, rfl⟩; rw [hin]
        go_wp2
        go_round
        case rel => exact ⟨k + 1, by go_num, by omega, hall'⟩
        case measure => simp [intOf]; omega
      · have hin' : inB (P.getD k 0) (-10000) 10000 = false := by simpa using hin
        have hno : Hid (tabB l P = false) := by unfold Hid tabB; rw [allIn_no hlt hin']; rfl
        clear hin
        generalize P.getD k 0 = x at *
        go_wp2_with fail
        refine (l1In_any _ _ _ _).mono ?_; rintro e w3 ⟨rfl, rfl⟩; rw [hin']
        go_wp2
        go_ret
        exact ⟨ret_b hno.out.symm, hst.below⟩
    · have hyes := hid (allIn_end (fun j hj => hall.out j (by omega)) : allIn (-10000) 10000 P = true)
      have hbox := hst.box
      by_cases hgp : grp l = true
      · obtain ⟨m, hm, rfl⟩ := grp_ok hgp
        have hr : Hid (tabB (cst m) P = ((P.length : Int) == ((prodN m : Nat) : Int))) := by
          unfold Hid tabB; rw [hyes.out, hgp, ordN_yes hm, Bool.eq_iff_iff]; simp; omega
        go_wp2_with (first | (go_at_call 65; refine (sIsGroup_any _ _ _ _ _ hl (St.grp (by assumption))).mono ?_; rintro e wN ⟨rfl, hbN⟩; have hstN := St.step (by assumption) hbN; have hboxN := hstN.box; clear hbN) | (go_at_call 66; refine (l2Order_any _ _ _ _ _ hm (St.grp (by assumption))).mono ?_; rintro e wN ⟨rfl, hbN⟩; have hstN := St.step (by assumption) hbN; have hboxN := hstN.box; clear hbN))
        go_ret
        exact ⟨ret_b (by rw [hr.out]), St.below (by assumption)⟩
      · have hgp' : grp l = false := by simpa using hgp
        have hr : Hid (tabB l P = false) := by unfold Hid tabB; rw [hgp']; simp
        clear hgp
        go_wp2_with (first | (go_at_call 65; refine (sIsGroup_any _ _ _ _ _ hl (St.grp (by assumption))).mono ?_; rintro e wN ⟨rfl, hbN⟩; have hstN := St.step (by assumption) hbN; have hboxN := hstN.box; clear hbN))
        go_ret
        exact ⟨ret_b hr.out.symm, St.below (by assumption)⟩
set_option maxHeartbeats 2000000 in
theorem sConvolveTables_any (b off cap : Nat) (l : List Int) (b2 cap2 : Nat) (P : List Int) (b3 cap3 : Nat) (Q : List Int) (w : World) (hl : l.length ≤ 1099511627776) (hP : P.length ≤ 1099511627776) (hQ : Q.length ≤ 1099511627776) (hg : GrpAt w b off l) (hg2 : GrpAt w b2 0 P) (hg3 : GrpAt w b3 0 Q) :
    Calls Try.prog 28 #[.agg #[.slice (some ⟨b, off, none⟩) l.length cap], .slice (some ⟨b2, 0, none⟩) P.length cap2, .slice (some ⟨b3, 0, none⟩) Q.length cap3] w (RetInts w (cvF l P Q)) := by
  obtain ⟨i0, hi, hz0, hz1, hz2⟩ := info_parts info_int
  have hst := St.init cap 32 hg
  go_enter Try.func28, Try.ntmps28
  go_wp2_with fail
  refine (l8Table_any _ _ _ _ _ _ _ _ hl hP hst.grp (hg2.below hst.below)).mono ?_; rintro e w1 ⟨rfl, hb1⟩; have hst1 := hst.step hb1; have hbox1 := hst1.box
  clear hst hb1
  by_cases h : cvOk l P Q = true
  · obtain ⟨hgp, h1, h2, h3, h4⟩ := cvOk_yes h
    have ht : tabB l P = true ∧ tabB l Q = true := by simpa [cvOk] using h
    obtain ⟨m, hm, rfl⟩ := grp_ok hgp
    have hr := hid (cvF_yes h)
    rw [ordN_yes hm] at h3 h4
    have hord := hm.ord
    have hbd := hid (cv_bd (f := addN m) (n := prodN m) h1 h2 (by omega) (by omega))
    have hml := hid (cv_mul h1 h2)
    have hlen : P.length ≤ 24 ∧ Q.length ≤ 24 := by omega
    have hPn := hid h3
    clear h h1 h2 h3 h4
    rw [ht.1]
    go_wp2_with fail
    refine (l8Table_any _ _ _ _ _ _ _ _ hl hQ hst1.grp (hg3.below hst1.below)).mono ?_; rintro e w4 ⟨rfl, hb4⟩; rw [ht.2]; have hst4 := hst1.step hb4
    clear hst1 hbox1 hb4 ht
    have hsz4 := hst4.below.size
    have hsb4 := hst4.size
    go_wp2_with (refine wpList_make_full _ rfl _ _ 22 rfl w.heap.size 3 i0 (.int .i64 0) 1 Try.underlying22 hi hz0 hz1 .i64 .i64 _ _ P.length rfl rfl rfl rfl ?c2 ?c3 ?c4 ?_)
    case c2 => rw [hz2]; omega
    case c3 => simp only [maxLen]; omega
    case c4 => exact hsz4
    intro w5 hown hgr
    have hmk := Made.make hst4.below hown hgr
    have hst5 : St w b off cap (cst m) w5 := hst4.step ⟨hgr.os, hgr.tape, hgr.output, hgr.size, fun k hk => hgr.block k hk (by simp)⟩
    have hne := hmk.ne hg
    have hnw : w.heap.size ≠ w4.heap.size := by omega
    have hV0 : StV w b off cap m w4.heap.size (outMul (addN m) P Q (prodN m) 0) w5 := ⟨hst5, by have h5 := hmk; rw [hPn.out] at h5; exact h5, hne, hnw⟩
    clear hown hgr hmk hst5 hst4 hsz4 hsb4 hne hnw
    generalize w4.heap.size = go at *
    have hsl := hid (outMul_len (addN m) P Q (prodN m))
    go_wp2
    go_loopw [8] (fun u wr => ∃ i : Nat, u = .int .i64 i ∧ i ≤ P.length ∧ StV w b off cap m go (outMul (addN m) P Q (prodN m) i) wr) (fun u _ => P.length - (intOf u).toNat)
    case atStart => exact ⟨0, rfl, by omega, hV0⟩
    case round =>
      clear hV0
      rename_i wr
      obtain ⟨i, rfl, hi1, hout⟩ := hrel
      by_cases hlt : i < P.length
      · have hcx := (hg2.below hout.st.below).cell0 i hlt
        obtain ⟨x, hx⟩ : ∃ x, Hid (P.getD i 0 = x) := ⟨_, rfl⟩
        rw [hx.out] at hcx
        have hin := hid (inMul_len (addN m) P Q i (outMul (addN m) P Q (prodN m) i))
        have hbi : Hid (∀ k z, k ≤ Q.length → -100000000000 ≤ (inMul (addN m) P Q i (outMul (addN m) P Q (prodN m) i) k).getD z 0 ∧ (inMul (addN m) P Q i (outMul (addN m) P Q (prodN m) i) k).getD z 0 ≤ 100000000000) := fun k z hk => hbd.out i k z hlt hk
        have hmi : Hid (∀ k, k < Q.length → -100000000 ≤ x * Q.getD k 0 ∧ x * Q.getD k 0 ≤ 100000000) := fun k hk => by rw [← hx.out]; exact hml.out i k hlt hk
        have hstart : Hid (StV w b off cap m go (inMul (addN m) P Q i (outMul (addN m) P Q (prodN m) i) 0) wr) := hout
        clear hout
        go_wp2
        go_loopw [9] (fun u wr => ∃ k : Nat, u = .int .i64 k ∧ k ≤ Q.length ∧ StV w b off cap m go (inMul (addN m) P Q i (outMul (addN m) P Q (prodN m) i) k) wr) (fun u _ => Q.length - (intOf u).toNat)
        case atStart => exact ⟨0, rfl, by omega, hstart.out⟩
        case round =>
          clear hstart hcx
          rename_i wr
          obtain ⟨k, rfl, hk1, hout⟩ := hrel
          by_cases hlk : k < Q.length
          · have hcy := (hg3.below hout.st.below).cell0 k hlk
            obtain ⟨y, hy⟩ : ∃ y, Hid (Q.getD k 0 = y) := ⟨_, rfl⟩
            rw [hy.out] at hcy
            have hxy := hmi.out k hlk
            rw [hy.out] at hxy
            have hzl := hm.add_lt i k
            have hnx : Hid (inMul (addN m) P Q i (outMul (addN m) P Q (prodN m) i) (k + 1) = (inMul (addN m) P Q i (outMul (addN m) P Q (prodN m) i) k).set (addN m i k) ((inMul (addN m) P Q i (outMul (addN m) P Q (prodN m) i) k).getD (addN m i k) 0 + x * y)) := by
              unfold Hid; rw [inMul, hx.out, hy.out]
            have hbo := hbi.out k (addN m i k) (by omega)
            have hbox := hout.st.box
            go_wp2_with fail
            refine (l2Add_any _ _ _ _ _ _ _ hm (by omega) (by omega) hout.st.grp).mono ?_; rintro e w6 ⟨rfl, hb6⟩; have ho6 := (hout.step hb6).drew
            have hco := ho6.out.cell (addN m i k) (by rw [hin.out, hsl.out]; exact hzl)
            have hfo := ho6.out.frozen (addN m i k)
            have hst := ho6.store (addN m i k) ((inMul (addN m) P Q i (outMul (addN m) P Q (prodN m) i) k).getD (addN m i k) 0 + x * y)
            rw [← hnx.out] at hst
            generalize (inMul (addN m) P Q i (outMul (addN m) P Q (prodN m) i) k).getD (addN m i k) 0 = o at *
            generalize addN m i k = z at *
            have hw2 : IntKind.i64.wrap (x * y) = x * y := by rw [IntWalk.i64_left, IntWalk.wrap64_in _ (by omega)]
            have hw3 : IntKind.i64.wrap (o + x * y) = o + x * y := by rw [IntWalk.i64_left, IntWalk.wrap64_in _ (by omega)]
            have hz0' : (0 : Int) ≤ (z : Int) := by omega
            have hzl' : (z : Int) < (P.length : Int) := by have := hPn.out; omega
            have hi1' : (0 : Int) ≤ (i : Int) := by omega
            have hi2' : (i : Int) < (P.length : Int) := by omega
            have hi3' : (0 : Int) ≤ (k : Int) := by omega
            have hi4' : (k : Int) < (Q.length : Int) := by omega
            have hcx := (hg2.below ho6.st.below).cell0 i hlt
            have hcy0 := (hg3.below ho6.st.below).cell0 k hlk
            have hcx' := (hg2.below hst.st.below).cell0 i hlt
            have hcy' := (hg3.below hst.st.below).cell0 k hlk
            rw [hx.out] at hcx hcx'
            rw [hy.out] at hcy0 hcy'
            clear hout hnx ho6 hb6 hbox hcy
            go_wp2
            refine wp_region_held_drew (S := fun w' => w'.cell? ⟨b2, i, none⟩ = some (.int .i64 x) ∧ w'.cell? ⟨b3, k, none⟩ = some (.int .i64 y)) (by kernel_rfl) ⟨hcx, hcy0⟩ (fun hHeld => ?_)
            (refine wpAnyH_take (i := 0) (oi := ?oi101) (v := ?v101) ?hi101 (by kernel_rfl) (by kernel_rfl) (by kernel_rfl) ?hq101 ?hy101 (by assumption) ?hr101; (case hi101 => ((simp only [List.getElem?_toArray, List.getElem?_cons_zero]); exact rfl)); (case hq101 => exact fun _ _ _ h => h); (case hy101 => (refine Or.inl ⟨by rfl, ?_⟩; (intro w hSw); (try dsimp only at hSw); go_simp; (try with_reducible rfl))); (try simp only [Act.put, List.setIfInBounds_toArray, List.set_cons_zero, List.set_cons_succ])); (refine wpAnyH_take (i := 1) (oi := ?oi102) (v := ?v102) ?hi102 (by kernel_rfl) (by kernel_rfl) (by kernel_rfl) ?hq102 ?hy102 (by assumption) ?hr102; (case hi102 => ((simp only [List.getElem?_toArray, List.getElem?_cons_zero, List.getElem?_cons_succ]); exact rfl)); (case hq102 => exact fun _ _ _ h => h); (case hy102 => (refine Or.inl ⟨by rfl, ?_⟩; (intro w hSw); (try dsimp only at hSw); go_simp; (try with_reducible rfl))); (try simp only [Act.put, List.setIfInBounds_toArray, List.set_cons_zero, List.set_cons_succ])); (refine wpAnyH_take (i := 2) (oi := ?oi103) (v := ?v103) ?hi103 (by kernel_rfl) (by kernel_rfl) (by kernel_rfl) ?hq103 ?hy103 (by assumption) ?hr103; (case hi103 => ((simp only [List.getElem?_toArray, List.getElem?_cons_zero, List.getElem?_cons_succ]); exact rfl)); (case hq103 => exact fun _ _ _ h => h); (case hy103 => (refine Or.inl ⟨by rfl, ?_⟩; (intro w hSw); (try dsimp only at hSw); go_simp; (try with_reducible rfl))); (try simp only [Act.put, List.setIfInBounds_toArray, List.set_cons_zero, List.set_cons_succ])); (refine wpAnyH_take (i := 3) (oi := ?oi104) (v := ?v104) ?hi104 (by kernel_rfl) (by kernel_rfl) (by kernel_rfl) ?hq104 ?hy104 (by assumption) ?hr104; (case hi104 => ((simp only [List.getElem?_toArray, List.getElem?_cons_zero, List.getElem?_cons_succ]); exact rfl)); (case hq104 => exact fun _ _ _ h => h); (case hy104 => (refine Or.inl ⟨by rfl, ?_⟩; (intro w hSw); (try dsimp only at hSw); go_simp; (try with_reducible rfl))); (try simp only [Act.put, List.setIfInBounds_toArray, List.set_cons_zero, List.set_cons_succ])); (refine wpAnyH_take (i := 4) (oi := ?oi105) (v := ?v105) ?hi105 (by kernel_rfl) (by kernel_rfl) (by kernel_rfl) ?hq105 ?hy105 (by assumption) ?hr105; (case hi105 => ((simp only [List.getElem?_toArray, List.getElem?_cons_zero, List.getElem?_cons_succ]); exact rfl)); (case hq105 => exact fun _ _ _ h => h); (case hy105 => (refine Or.inl ⟨by rfl, ?_⟩; (intro w hSw); (try dsimp only at hSw); go_simp; (try with_reducible rfl))); (try simp only [Act.put, List.setIfInBounds_toArray, List.set_cons_zero, List.set_cons_succ])); (refine wpAnyH_take (i := 6) (oi := ?oi106) (v := ?v106) ?hi106 (by kernel_rfl) (by kernel_rfl) (by kernel_rfl) ?hq106 ?hy106 (by assumption) ?hr106; (case hi106 => ((simp only [List.getElem?_toArray, List.getElem?_cons_zero, List.getElem?_cons_succ]); exact rfl)); (case hq106 => exact fun _ _ _ h => h); (case hy106 => (refine Or.inl ⟨by rfl, ?_⟩; (intro w hSw); (try dsimp only at hSw); go_simp; (try with_reducible rfl))); (try simp only [Act.put, List.setIfInBounds_toArray, List.set_cons_zero, List.set_cons_succ])); (refine wpAnyH_take (i := 7) (oi := ?oi107) (v := ?v107) ?hi107 (by kernel_rfl) (by kernel_rfl) (by kernel_rfl) ?hq107 ?hy107 (by assumption) ?hr107; (case hi107 => ((simp only [List.getElem?_toArray, List.getElem?_cons_zero, List.getElem?_cons_succ]); exact rfl)); (case hq107 => exact fun _ _ _ h => h); (case hy107 => (refine Or.inl ⟨by rfl, ?_⟩; (intro w hSw); (try dsimp only at hSw); go_simp; (try with_reducible rfl))); (try simp only [Act.put, List.setIfInBounds_toArray, List.set_cons_zero, List.set_cons_succ])); (refine wpAnyH_take (i := 8) (oi := ?oi108) (v := ?v108) ?hi108 (by kernel_rfl) (by kernel_rfl) (by kernel_rfl) ?hq108 ?hy108 (by assumption) ?hr108; (case hi108 => ((simp only [List.getElem?_toArray, List.getElem?_cons_zero, List.getElem?_cons_succ]); exact rfl)); (case hq108 => exact fun _ _ _ h => h); (case hy108 => (refine Or.inl ⟨by rfl, ?_⟩; (intro w hSw); (try dsimp only at hSw); go_simp; (try with_reducible rfl))); (try simp only [Act.put, List.setIfInBounds_toArray, List.set_cons_zero, List.set_cons_succ])); (refine wpAnyH_take (i := 9) (oi := ?oi109) (v := ?v109) ?hi109 (by kernel_rfl) (by kernel_rfl) (by kernel_rfl) ?hq109 ?hy109 (by assumption) ?hr109; (case hi109 => ((simp only [List.getElem?_toArray, List.getElem?_cons_zero, List.getElem?_cons_succ]); exact rfl)); (case hq109 => exact fun _ _ _ h => h); (case hy109 => (refine Or.inl ⟨by rfl, ?_⟩; (intro w hSw); (try dsimp only at hSw); go_simp; (try with_reducible rfl))); (try simp only [Act.put, List.setIfInBounds_toArray, List.set_cons_zero, List.set_cons_succ])); (refine wpAnyH_take (i := 10) (oi := ?oi110) (v := ?v110) ?hi110 (by kernel_rfl) (by kernel_rfl) (by kernel_rfl) ?hq110 ?hy110 (by assumption) ?hr110; (case hi110 => ((simp only [List.getElem?_toArray, List.getElem?_cons_zero, List.getElem?_cons_succ]); exact rfl)); (case hq110 => exact fun _ _ _ h => h); (case hy110 => (refine Or.inl ⟨by rfl, ?_⟩; (intro w hSw); (try dsimp only at hSw); go_simp; (try with_reducible rfl))); (try simp only [Act.put, List.setIfInBounds_toArray, List.set_cons_zero, List.set_cons_succ])); (refine wpAnyH_take (i := 11) (oi := ?oi111) (v := ?v111) ?hi111 (by kernel_rfl) (by kernel_rfl) (by kernel_rfl) ?hq111 ?hy111 (by assumption) ?hr111; (case hi111 => ((simp only [List.getElem?_toArray, List.getElem?_cons_zero, List.getElem?_cons_succ]); exact rfl)); (case hq111 => exact fun _ _ _ h => h); (case hy111 => (refine Or.inl ⟨by rfl, ?_⟩; (intro w hSw); (try dsimp only at hSw); go_simp; (try with_reducible rfl))); (try simp only [Act.put, List.setIfInBounds_toArray, List.set_cons_zero, List.set_cons_succ])); (refine wpAnyH_take (i := 12) (oi := ?oi112) (v := ?v112) ?hi112 (by kernel_rfl) (by kernel_rfl) (by kernel_rfl) ?hq112 ?hy112 (by assumption) ?hr112; (case hi112 => ((simp only [List.getElem?_toArray, List.getElem?_cons_zero, List.getElem?_cons_succ]); exact rfl)); (case hq112 => exact fun _ _ _ h => h); (case hy112 => (refine Or.inl ⟨by rfl, ?_⟩; (intro w hSw); (try dsimp only at hSw); go_simp; (try with_reducible rfl))); (try simp only [Act.put, List.setIfInBounds_toArray, List.set_cons_zero, List.set_cons_succ])); (refine wpAnyH_take (i := 13) (oi := ?oi113) (v := ?v113) ?hi113 (by kernel_rfl) (by kernel_rfl) (by kernel_rfl) ?hq113 ?hy113 (by assumption) ?hr113; (case hi113 => ((simp only [List.getElem?_toArray, List.getElem?_cons_zero, List.getElem?_cons_succ]); exact rfl)); (case hq113 => exact fun _ _ _ h => h); (case hy113 => (refine Or.inl ⟨by rfl, ?_⟩; (intro w hSw); (try dsimp only at hSw); go_simp; (try with_reducible rfl))); (try simp only [Act.put, List.setIfInBounds_toArray, List.set_cons_zero, List.set_cons_succ])); (refine wpAnyH_take (i := 14) (oi := ?oi114) (v := ?v114) ?hi114 (by kernel_rfl) (by kernel_rfl) (by kernel_rfl) ?hq114 ?hy114 (by assumption) ?hr114; (case hi114 => ((simp only [List.getElem?_toArray, List.getElem?_cons_zero, List.getElem?_cons_succ]); exact rfl)); (case hq114 => exact fun _ _ _ h => h); (case hy114 => (refine Or.inl ⟨by rfl, ?_⟩; (intro w hSw); (try dsimp only at hSw); go_simp; (try with_reducible rfl))); (try simp only [Act.put, List.setIfInBounds_toArray, List.set_cons_zero, List.set_cons_succ]))
            refine wpAnyH_ready (rs := [5]) (by kernel_rfl) (by simp) ?_; refine AllReadyH.cons rfl (fun K hK => ?_) AllReadyH.nil; go_simp
            refine hK.out _ _ ?ks (fun hHeld => ?_); (case ks => (exact ⟨hcx, hcy0⟩)); clear hK K; (try simp only [Act.put, List.setIfInBounds_toArray, List.set_cons_zero, List.set_cons_succ])
            (refine wpAnyH_take (i := 15) (oi := ?oi115) (v := ?v115) ?hi115 (by kernel_rfl) (by kernel_rfl) (by kernel_rfl) ?hq115 ?hy115 (by assumption) ?hr115; (case hi115 => ((simp only [List.getElem?_toArray, List.getElem?_cons_zero, List.getElem?_cons_succ]); exact rfl)); (case hq115 => exact fun _ _ _ h => h); (case hy115 => (refine Or.inl ⟨by rfl, ?_⟩; (intro w hSw); (try dsimp only at hSw); go_simp; (try with_reducible rfl))); (try simp only [Act.put, List.setIfInBounds_toArray, List.set_cons_zero, List.set_cons_succ])); (refine wpAnyH_take (i := 16) (oi := ?oi116) (v := ?v116) ?hi116 (by kernel_rfl) (by kernel_rfl) (by kernel_rfl) ?hq116 ?hy116 (by assumption) ?hr116; (case hi116 => ((simp only [List.getElem?_toArray, List.getElem?_cons_zero, List.getElem?_cons_succ]); exact rfl)); (case hq116 => exact fun _ _ _ h => h); (case hy116 => (refine Or.inl ⟨by rfl, ?_⟩; (intro w hSw); (try dsimp only at hSw); go_simp; (try with_reducible rfl))); (try simp only [Act.put, List.setIfInBounds_toArray, List.set_cons_zero, List.set_cons_succ]))
            refine wpAnyH_ready (rs := [17]) (by kernel_rfl) (by simp) ?_; refine AllReadyH.cons rfl (fun K hK => ?_) AllReadyH.nil; go_simp
            refine hK.out _ _ ?ks (fun hHeld => ?_); (case ks => exact ⟨hcx', hcy'⟩); clear hK K
            refine wpAnyH_done (by kernel_rfl) ?_ _
            go_wp2
            go_roundw
            case rel => exact ⟨k + 1, by go_num, by omega, hst⟩
            case measure => simp [intOf]; omega
          · have hnx : Hid (inMul (addN m) P Q i (outMul (addN m) P Q (prodN m) i) k = outMul (addN m) P Q (prodN m) (i + 1)) := by unfold Hid; rw [outMul, show k = Q.length from by omega]
            rw [hnx.out] at hout
            go_wp2
            go_roundw
            case rel => exact ⟨i + 1, by go_num, by omega, hout⟩
            case measure => simp [intOf]; omega
      · have hend : Hid (outMul (addN m) P Q (prodN m) i = cvF (cst m) P Q) := by unfold Hid; rw [hr.out, show i = P.length from by omega]
        have hlm : Hid ((cvF (cst m) P Q).length = prodN m) := by unfold Hid; rw [← hend.out, hsl.out]
        have ho := hout.out
        rw [hend.out] at ho
        have hfin : Hid (RetInts w (cvF (cst m) P Q) (.returned (.slice (some ⟨go, 0, none⟩) P.length P.length)) wr) := ⟨go, prodN m, by rw [hlm.out, hPn.out], ho⟩
        clear hout ho
        go_wp2
        go_ret
        exact hfin.out
  · have hn : cvOk l P Q = false := by simpa using h
    have hr := hid (cvF_no hn)
    by_cases ht : tabB l P = true
    · have ht2 : tabB l Q = false := by simpa [cvOk, ht] using hn
      rw [ht]
      clear h hn
      go_wp2_with fail
      refine (l8Table_any _ _ _ _ _ _ _ _ hl hQ hst1.grp (hg3.below hst1.below)).mono ?_; rintro e w4 ⟨rfl, hb4⟩; rw [ht2]; have hst4 := hst1.step hb4
      have hgr1 := Growing.start (w := w) hst4.below hst4.below.size #[] rfl
      go_wp2
      go_ret
      rw [hr.out]
      exact hgr1.ret
    · have ht' : tabB l P = false := by simpa using ht
      rw [ht']
      clear h hn ht
      have hgr1 := Growing.start (w := w) hst1.below hst1.below.size #[] rfl
      go_wp2
      go_ret
      rw [hr.out]
      exact hgr1.ret
end Go.Proofs.Ytickcopllojchaa
