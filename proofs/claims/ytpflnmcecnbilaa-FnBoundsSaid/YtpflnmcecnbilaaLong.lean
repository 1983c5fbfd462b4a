/-
  Contracts: the longest progression in a set.
-/
import Derived.Test.YtpflnmcecnbilaaElem
import Derived.Test.YtpflnmcecnbilaaPro
import Derived.Test.YtpflnmcecnbilaaShift
namespace Go.Proofs.Ytpflnmcecnbilaa
open Go.RowKit

theorem stepN_eq {m : List Nat} (hm : Ok m) {s : Nat} (hs : s < prodN m) (d : Nat) : ∀ k, stepN m s d k = addN m s (mulN m k d)
  | 0 => by rw [mulN_zero, hm.add_zero hs]; rfl
  | k + 1 => by rw [stepN, stepN_eq hm hs d k, hm.assoc, mulN_succ hm.ge2]
theorem stepN_back {m : List Nat} (hm : Ok m) {s : Nat} (hs : s < prodN m) (d : Nat) : stepN m s d (prodN m) = s := by
  rw [stepN_eq hm hs, mulN_dvd (Nat.dvd_refl _), hm.add_zero hs]
theorem stepN_cancel {m : List Nat} (hm : Ok m) {s : Nat} (hs : s < prodN m) (d : Nat) : ∀ j i, stepN m s d (i + j) = stepN m s d j → stepN m s d i = s
  | 0, _, h => h
  | j + 1, i, h => stepN_cancel hm hs d j i (hm.cancel (stepN_lt hm hs _) (stepN_lt hm hs _) h)
def runN (m : List Nat) (A x d : Nat) : Nat := ((List.range (prodN m)).find? fun j => stepN m x d (j + 1) == x || !A.testBit (stepN m x d (j + 1))).getD 0 + 1
theorem runN_eq {m : List Nat} {A x d n : Nat} (h1 : 1 ≤ n) (hn : n ≤ prodN m) (h : ∀ j, 1 ≤ j → j < n → stepN m x d j ≠ x ∧ A.testBit (stepN m x d j) = true) (h0 : stepN m x d n = x ∨ A.testBit (stepN m x d n) = false) : runN m A x d = n := by
  have e : (List.range (prodN m)).find? (fun j => stepN m x d (j + 1) == x || !A.testBit (stepN m x d (j + 1))) = some (n - 1) := by
    rw [List.find?_range_eq_some]
    refine ⟨?_, by rw [List.mem_range]; omega, fun j hj => ?_⟩
    · rw [show n - 1 + 1 = n from by omega]
      rcases h0 with h0 | h0
      · simp [h0]
      · simp [h0]
    · have := h (j + 1) (by omega) (by omega)
      simp [this.1, this.2]
  unfold runN; rw [e]; simp; omega
theorem runN_le (m : List Nat) (A x d : Nat) (hp : 0 < prodN m) : runN m A x d ≤ prodN m := by
  unfold runN
  cases e : (List.range (prodN m)).find? (fun j => stepN m x d (j + 1) == x || !A.testBit (stepN m x d (j + 1))) with
  | none => simp; omega
  | some v => have := List.mem_range.1 (List.mem_of_find?_eq_some e); simp; omega
/-- where the reference's loop ends: an element met before, or one outside the set -/
theorem runN_seen {m : List Nat} (hm : Ok m) {A x d n : Nat} (hx : x < prodN m) (hxA : A.testBit x = true) (hn : n ≤ prodN m)
    (h : ∀ j, j < n → A.testBit (stepN m x d j) = true ∧ ∀ i, i < j → stepN m x d j ≠ stepN m x d i) (h0 : A.testBit (stepN m x d n) = false ∨ ∃ i, i < n ∧ stepN m x d n = stepN m x d i) : runN m A x d = n := by
  have hn1 : 1 ≤ n := by
    rcases Nat.eq_zero_or_pos n with e | e
    · subst e
      rcases h0 with h0 | ⟨i, hi, _⟩
      · rw [show stepN m x d 0 = x from rfl, hxA] at h0; simp at h0
      · omega
    · exact e
  refine runN_eq hn1 hn (fun j h1 hj => ⟨fun e => (h j hj).2 0 (by omega) (by rw [e]; rfl), (h j hj).1⟩) ?_
  rcases h0 with h0 | ⟨i, hi, e⟩
  · exact .inr h0
  · refine .inl ?_
    have h2 := stepN_cancel hm hx d i (n - i) (by rw [show n - i + i = n from by omega]; exact e)
    rcases Nat.eq_zero_or_pos i with e0 | e0
    · rw [e0] at h2; exact h2
    · exact ((h (n - i) (by omega)).2 0 (by omega) (by rw [h2]; rfl)).elim
def bIn (m : List Nat) (A x b j : Nat) : Nat := (List.range j).foldl (fun b d => max b (runN m A x d)) b
def bOut (m : List Nat) (A : Nat) (L : List Nat) (i : Nat) : Nat := (L.take i).foldl (fun b x => bIn m A x b (prodN m)) 0
theorem bIn_succ (m : List Nat) (A x b j : Nat) : bIn m A x b (j + 1) = max (bIn m A x b j) (runN m A x j) := by simp [bIn, List.range_succ]
theorem bOut_succ {m : List Nat} {A : Nat} {L : List Nat} {i : Nat} (h : i < L.length) : bOut m A L (i + 1) = bIn m A (L.getD i 0) (bOut m A L i) (prodN m) := by
  unfold bOut; rw [take_snoc L 0 i h, List.foldl_append]; rfl
theorem bIn_le {m : List Nat} (hm : Ok m) {A x b : Nat} (hb : b ≤ 24) : ∀ j, bIn m A x b j ≤ 24
  | 0 => hb
  | j + 1 => by rw [bIn_succ]; have h1 := bIn_le hm (A := A) (x := x) hb j; have h2 := runN_le m A x j hm.pos; have := hm.ord; omega
theorem bOut_le {m : List Nat} (hm : Ok m) {A : Nat} {L : List Nat} : ∀ i, i ≤ L.length → bOut m A L i ≤ 24
  | 0, _ => by simp [bOut]
  | i + 1, h => by rw [bOut_succ (by omega)]; exact bIn_le hm (bOut_le hm i (by omega)) _
def longF (l : List Int) (a : Int) : Int := if isSetB l a = true then (bOut (toN l) a.toNat (mem a.toNat) (mem a.toNat).length : Nat) else -1
theorem longF_yes {m : List Nat} {A : Nat} (hm : Ok m) (hA : A < 2 ^ prodN m) : longF (cst m) A = (bOut m A (mem A) (mem A).length : Nat) := by
  unfold longF; rw [if_pos (isSetB_nat hm hA), toN_cst, Int.toNat_natCast]
theorem longF_no {l : List Int} {a : Int} (h : isSetB l a = false) : longF l a = -1 := by unfold longF; rw [if_neg (by simp [h])]
theorem memL_lt_ord {A n x : Nat} (hA : A < 2 ^ n) (hx : x ∈ mem A) : x < n := by
  have h := mem_testBit hx
  rcases Nat.lt_or_ge x n with h1 | h1
  · exact h1
  · have := Nat.testBit_lt_two_pow (Nat.lt_of_lt_of_le hA (Nat.pow_le_pow_right (by omega : 0 < 2) h1))
    rw [this] at h; simp at h
set_option maxHeartbeats 1000000 in
theorem longestProgression_any (b off cap : Nat) (l : List Int) (a : Int) (w : World) (hl : l.length ≤ 1099511627776) (hg : GrpAt w b off l) :
    Calls Try.prog 39 #[.agg #[.slice (some ⟨b, off, none⟩) l.length cap], .int .i64 a] w fun e w' => e = .returned (.int .i64 (longF l a)) ∧ Below w.heap.size w w' := by
  have hst := St.init cap 26 hg
  by_cases h : isSetB l a = true
  · have h3 := isSetB_iff.1 h
    obtain ⟨m, A, hm, rfl, rfl, hA⟩ := h3
    have hr := hid (longF_yes hm hA)
    have hA' := Nat.lt_of_lt_of_le hA hm.pow_le
    have hord := hm.ord
    have hL24 : (cst (mem A)).length ≤ 24 := by rw [cst_length]; exact card_le A
    have hmo : Hid (∀ i, i < (mem A).length → (mem A).getD i 0 < prodN m) := fun i hi => memL_lt_ord hA (getD_mem _ 0 i hi)
    have hlc := hid (cst_length (mem A))
    clear hA
    go_enter Try.func39, Try.ntmps39
    go_wp2_with (first | (go_at_call 132; refine (isSet_any _ _ _ _ _ _ hl (St.grp (by assumption))).mono ?_; rintro e wN ⟨rfl, hbN⟩; have hstN := St.step (by assumption) hbN; have hboxN := hstN.box; clear hbN))
    have hst1 : St w b off cap (cst m) wN := by assumption
    refine (members_any A _ hA').mono ?_; rintro e w1 ⟨g, c1, rfl, hm1⟩
    have hstl : StL w b off cap (cst m) g (cst (mem A)) w1 := ⟨hst1.step hm1.below, hm1.grp⟩
    clear hst hst1 hm1 hg hboxN
    generalize mem A = L at *
    go_wp2
    go_loopw [5, 18] (fun n i wr => ∃ i' N : Nat, i = .int .i64 i' ∧ i' ≤ (cst L).length ∧ n = .int .i64 N ∧ Hid (N = bOut m A L i') ∧ StL w b off cap (cst m) g (cst L) wr) (fun _ i _ => (cst L).length - (intOf i).toNat)
    case atStart => exact ⟨0, 0, rfl, by omega, rfl, rfl, hstl⟩
    case round =>
      clear hstl
      rename_i wr
      obtain ⟨i, N, rfl, hi, rfl, hN, hstr⟩ := hrel
      by_cases hlt : i < (cst L).length
      · have hck := hstr.lst.nat0 i hlt
        have hxo := hmo.out i (by have := hlc.out; omega)
        have hNb := bOut_le hm (A := A) (L := L) i (by have := hlc.out; omega)
        rw [← hN.out] at hNb
        have hos : Hid (bOut m A L (i + 1) = bIn m A (L.getD i 0) N (prodN m)) := by unfold Hid; rw [bOut_succ (by have := hlc.out; omega), hN.out]
        generalize L.getD i 0 = x at *
        have hbox := hstr.st.box
        go_wp2_with fail
        refine (orderOf_yes _ _ _ _ _ hm hstr.st.grp).mono ?_; rintro e w2 ⟨rfl, hb2⟩; have hst2 := hstr.step hb2
        clear hstr hb2 hbox
        go_wp2
        go_loopw [5, 24] (fun n d wr => ∃ d' M : Nat, d = .int .i64 d' ∧ d' ≤ prodN m ∧ n = .int .i64 M ∧ Hid (M = bIn m A x N d') ∧ StL w b off cap (cst m) g (cst L) wr) (fun _ d _ => prodN m - (intOf d).toNat)
        case atStart => exact ⟨0, N, rfl, by omega, rfl, rfl, hst2⟩
        case round =>
          clear hst2
          rename_i wr
          obtain ⟨d, M, rfl, hd, rfl, hM, hstr⟩ := hrel
          by_cases hld : d < prodN m
          · have hbox := hstr.st.box
            have hMb := bIn_le hm (A := A) (x := x) hNb d
            rw [← hM.out] at hMb
            have hms := hid (bIn_succ m A x N d)
            rw [← hM.out] at hms
            have hy1 := hm.add_lt x d
            go_wp2_with fail
            refine (add_any _ _ _ _ _ _ _ hm (by omega) (by omega) hstr.st.grp).mono ?_; rintro e w3 ⟨rfl, hb3⟩; have hst3 := hstr.step hb3
            clear hstr hb3 hbox
            go_wp2
            go_loopw [9, 10] (fun n y wr => ∃ k Y : Nat, n = .int .i64 k ∧ 1 ≤ k ∧ k ≤ prodN m ∧ y = .int .i64 Y ∧ Y < prodN m ∧ Hid (Y = stepN m x d k) ∧ Hid (∀ j, 1 ≤ j → j < k → stepN m x d j ≠ x ∧ A.testBit (stepN m x d j) = true) ∧ StL w b off cap (cst m) g (cst L) wr) (fun n _ _ => prodN m - (intOf n).toNat)
            case atStart => exact ⟨1, addN m x d, rfl, by omega, hm.pos, rfl, hy1, rfl, (fun j h1 h2 => by omega), hst3⟩
            case round =>
              clear hst3
              rename_i wr
              obtain ⟨k, Y, rfl, hk1, hk, rfl, hY, hYe, hall, hstr⟩ := hrel
              have hbox := hstr.st.box
              by_cases he : Y = x
              · have hru : Hid (runN m A x d = k) := runN_eq hk1 hk hall.out (.inl (by rw [← hYe.out]; exact he))
                have heb : ((Y : Int) != (x : Int)) = false := by rw [he]; simp
                clear he
                go_wp2
                go_roundw
                case rel => exact ⟨d + 1, max M k, by go_num, by omega, val_i (by omega), by unfold Hid; rw [hms.out, hru.out], hstr⟩
                case measure => simp [intOf]; omega
              · have heb : ((Y : Int) != (x : Int)) = true := by rw [bne_iff_ne]; omega
                have hlk : k < prodN m := by
                  rcases Nat.lt_or_ge k (prodN m) with h | h
                  · exact h
                  · exact (he (by rw [hYe.out, show k = prodN m from by omega, stepN_back hm hxo])).elim
                by_cases ht : A.testBit Y = true
                · have hall' : Hid (∀ j, 1 ≤ j → j < k + 1 → stepN m x d j ≠ x ∧ A.testBit (stepN m x d j) = true) := fun j h1 h2 => by
                    by_cases e : j = k
                    · rw [e, ← hYe.out]; exact ⟨he, ht⟩
                    · exact hall.out j h1 (by omega)
                  have hY2 := hm.add_lt Y d
                  have hYe' : Hid (addN m Y d = stepN m x d (k + 1)) := by unfold Hid; rw [hYe.out]; rfl
                  clear he
                  go_wp2_with fail
                  refine (in_any A Y _ hA' (by omega)).mono ?_; rintro e w4 ⟨rfl, rfl⟩; rw [ht]
                  go_wp2_with fail
                  refine (add_any _ _ _ _ _ _ _ hm (by omega) (by omega) hstr.st.grp).mono ?_; rintro e w5 ⟨rfl, hb5⟩; have hst5 := hstr.step hb5
                  clear hstr hb5 hbox
                  go_wp2
                  go_roundw
                  case rel => exact ⟨k + 1, _, by go_num, by omega, by omega, rfl, hY2, hYe', hall', hst5⟩
                  case measure => simp [intOf]; omega
                · have hf : A.testBit Y = false := by simpa using ht
                  have hru : Hid (runN m A x d = k) := runN_eq hk1 hk hall.out (.inr (by rw [← hYe.out]; exact hf))
                  clear he ht
                  go_wp2_with fail
                  refine (in_any A Y _ hA' (by omega)).mono ?_; rintro e w4 ⟨rfl, rfl⟩; rw [hf]
                  go_wp2
                  go_roundw
                  case rel => exact ⟨d + 1, max M k, by go_num, by omega, val_i (by omega), by unfold Hid; rw [hms.out, hru.out], hstr⟩
                  case measure => simp [intOf]; omega
          · have hnx : Hid (M = bOut m A L (i + 1)) := by unfold Hid; rw [hos.out, hM.out, show d = prodN m from by omega]
            go_wp2
            go_roundw
            case rel => exact ⟨i + 1, M, by go_num, by omega, rfl, hnx, hstr⟩
            case measure => simp [intOf]; omega
      · have hend : Hid (bOut m A L L.length = N) := by unfold Hid; rw [hN.out, show i = L.length from by have := hlc.out; omega]
        go_wp2
        go_ret
        exact ⟨ret_i (by rw [hr.out, hend.out]), hstr.st.below⟩
  · have hn : isSetB l a = false := by simpa using h
    have hr := hid (longF_no hn)
    clear h
    go_enter Try.func39, Try.ntmps39
    go_wp2_with (first | (go_at_call 132; refine (isSet_any _ _ _ _ _ _ hl (St.grp (by assumption))).mono ?_; rintro e wN ⟨rfl, hbN⟩; have hstN := St.step (by assumption) hbN; have hboxN := hstN.box; clear hbN))
    go_ret
    exact ⟨ret_i (by rw [hr.out]), St.below (by assumption)⟩
theorem shrL_test0 {A : Nat} (k : Nat) (hA : A < 16777216) : (bits BinOp.and IntKind.i64 ((A : Int) / 2 ^ k) 1 == 0) = !A.testBit k := by
  have h1 : A / 2 ^ k ≤ A := Nat.div_le_self _ _
  have e : ((A : Int) / 2 ^ k) = ((A / 2 ^ k : Nat) : Int) := by simp
  rw [e, show (1 : Int) = ((1 : Nat) : Int) from rfl, bits_and_nat _ _ (by omega) (by omega), Nat.testBit_eq_decide_div_mod_eq]
  rw [Nat.and_one_is_mod, Bool.eq_iff_iff]; simp; omega
theorem seen_iff {m : List Nat} {x d k y : Nat} : (ofL (progTo m x d k)).testBit y = true ↔ ∃ i, i < k ∧ stepN m x d i = y := by
  rw [testBit_ofL, List.contains_iff_mem]; simp [progTo]
set_option maxHeartbeats 1000000 in
theorem sLongestProgression_any (b off cap : Nat) (l : List Int) (a : Int) (w : World) (hl : l.length ≤ 1099511627776) (hg : GrpAt w b off l) :
    Calls Try.prog 50 #[.agg #[.slice (some ⟨b, off, none⟩) l.length cap], .int .i64 a] w fun e w' => e = .returned (.int .i64 (longF l a)) ∧ Below w.heap.size w w' := by
  have hst := St.init cap 26 hg
  by_cases h : isSetB l a = true
  · have h3 := isSetB_iff.1 h
    obtain ⟨m, A, hm, rfl, rfl, hA⟩ := h3
    have hr := hid (longF_yes hm hA)
    have hA' := Nat.lt_of_lt_of_le hA hm.pow_le
    have hord := hm.ord
    have hL24 : (cst (mem A)).length ≤ 24 := by rw [cst_length]; exact card_le A
    have hmo : Hid (∀ i, i < (mem A).length → (mem A).getD i 0 < prodN m ∧ A.testBit ((mem A).getD i 0) = true) := fun i hi => ⟨memL_lt_ord hA (getD_mem _ 0 i hi), mem_testBit (getD_mem _ 0 i hi)⟩
    have hlc := hid (cst_length (mem A))
    clear hA
    go_enter Try.func50, Try.ntmps50
    go_wp2_with (first | (go_at_call 64; refine (sIsSet_any _ _ _ _ _ _ hl (St.grp (by assumption))).mono ?_; rintro e wN ⟨rfl, hbN⟩; have hstN := St.step (by assumption) hbN; have hboxN := hstN.box; clear hbN))
    have hst1 : St w b off cap (cst m) wN := by assumption
    refine (l3List_any A _ hA').mono ?_; rintro e w1 ⟨g, c1, rfl, hm1⟩
    have hstl : StL w b off cap (cst m) g (cst (mem A)) w1 := ⟨hst1.step hm1.below, hm1.grp⟩
    clear hst hst1 hm1 hg hboxN
    generalize mem A = L at *
    go_wp2
    go_loopw [5, 7] (fun n i wr => ∃ i' N : Nat, i = .int .i64 i' ∧ i' ≤ (cst L).length ∧ n = .int .i64 N ∧ Hid (N = bOut m A L i') ∧ StL w b off cap (cst m) g (cst L) wr) (fun _ i _ => (cst L).length - (intOf i).toNat)
    case atStart => exact ⟨0, 0, rfl, by omega, rfl, rfl, hstl⟩
    case round =>
      clear hstl
      rename_i wr
      obtain ⟨i, N, rfl, hi, rfl, hN, hstr⟩ := hrel
      by_cases hlt : i < (cst L).length
      · obtain ⟨hxo, hxA⟩ := hmo.out i (by have := hlc.out; omega)
        have hNb := bOut_le hm (A := A) (L := L) i (by have := hlc.out; omega)
        rw [← hN.out] at hNb
        have hos : Hid (bOut m A L (i + 1) = bIn m A (L.getD i 0) N (prodN m)) := by unfold Hid; rw [bOut_succ (by have := hlc.out; omega), hN.out]
        obtain ⟨x, hx⟩ : ∃ x, Hid (L.getD i 0 = x) := ⟨_, rfl⟩
        rw [hx.out] at hxo hxA hos
        have hxA := hid hxA
        go_wp2
        go_loopw [5, 8] (fun n d wr => ∃ d' M : Nat, d = .int .i64 d' ∧ d' ≤ prodN m ∧ n = .int .i64 M ∧ Hid (M = bIn m A x N d') ∧ StL w b off cap (cst m) g (cst L) wr) (fun _ d _ => prodN m - (intOf d).toNat)
        case atStart => exact ⟨0, N, rfl, by omega, rfl, rfl, hstr⟩
        case round =>
          clear hstr
          rename_i wr
          obtain ⟨d, M, rfl, hd, rfl, hM, hstr⟩ := hrel
          have hbox := hstr.st.box
          go_wp2_with fail
          refine (l2Order_any _ _ _ _ _ hm hstr.st.grp).mono ?_; rintro e w2 ⟨rfl, hb2⟩; have hst2 := hstr.step hb2
          clear hstr hb2 hbox
          by_cases hld : d < prodN m
          · have hck := hst2.lst.nat0 i hlt
            rw [hx.out] at hck
            have hMb := bIn_le hm (A := A) (x := x) hNb d
            rw [← hM.out] at hMb
            have hms := hid (bIn_succ m A x N d)
            rw [← hM.out] at hms
            go_wp2
            go_loopw [9, 10, 11] (fun n s y wr => ∃ k S Y : Nat, n = .int .i64 k ∧ k ≤ prodN m ∧ s = .int .i64 S ∧ S < 16777216 ∧ Hid (S = ofL (progTo m x d k)) ∧ y = .int .i64 Y ∧ Y < prodN m ∧ Hid (Y = stepN m x d k) ∧ Hid (∀ j, j < k → A.testBit (stepN m x d j) = true ∧ ∀ i, i < j → stepN m x d j ≠ stepN m x d i) ∧ StL w b off cap (cst m) g (cst L) wr) (fun n _ _ _ => prodN m - (intOf n).toNat)
            case atStart => exact ⟨0, 0, x, rfl, by omega, rfl, by omega, rfl, rfl, hxo, rfl, (fun j hj => by omega), hst2⟩
            case round =>
              clear hst2 hck
              rename_i wr
              obtain ⟨k, S, Y, rfl, hk, rfl, hS, hSe, rfl, hY, hYe, hall, hstr⟩ := hrel
              have hbox := hstr.st.box
              have hA1 := shr_test (A := A) Y hA'
              have hS1 := shrL_test0 (A := S) Y hS
              by_cases ht : A.testBit Y = true
              · rw [ht] at hA1
                by_cases hs : S.testBit Y = true
                · rw [hs] at hS1
                  have hru : Hid (runN m A x d = k) := runN_seen hm hxo hxA.out hk hall.out (.inr (by
                    obtain ⟨i, h1, h2⟩ := seen_iff.1 (show (ofL (progTo m x d k)).testBit Y = true by rw [← hSe.out]; exact hs)
                    exact ⟨i, h1, by rw [← hYe.out, h2]⟩))
                  clear ht hs
                  go_wp2
                  go_roundw
                  case rel => exact ⟨d + 1, max M k, by go_num, by omega, val_i (by omega), by unfold Hid; rw [hms.out, hru.out], hstr⟩
                  case measure => simp [intOf]; omega
                · have hf : S.testBit Y = false := by simpa using hs
                  rw [hf] at hS1
                  have hnew : Hid (∀ i, i < k → stepN m x d k ≠ stepN m x d i) := fun i hi e => by
                    have : S.testBit Y = true := by rw [hSe.out, hYe.out]; exact seen_iff.2 ⟨i, hi, e.symm⟩
                    rw [hf] at this; simp at this
                  have hlk : k < prodN m := by
                    rcases Nat.lt_or_ge k (prodN m) with h | h
                    · exact h
                    · exact (hnew.out 0 (by have := hm.pos; omega) (by rw [show k = prodN m from by omega, stepN_back hm hxo]; rfl)).elim
                  have hall' : Hid (∀ j, j < k + 1 → A.testBit (stepN m x d j) = true ∧ ∀ i, i < j → stepN m x d j ≠ stepN m x d i) := fun j hj => by
                    by_cases e : j = k
                    · rw [e]; exact ⟨by rw [← hYe.out]; exact ht, hnew.out⟩
                    · exact hall.out j (by omega)
                  have hor := hid (ofL_orP (progTo_24 (d := d) hm hxo k) (show Y < 24 by omega))
                  have hS' : Hid (ofL (progTo m x d k ++ [Y]) = ofL (progTo m x d (k + 1))) := by unfold Hid; rw [progTo_succ, hYe.out]
                  have hSb : ofL (progTo m x d (k + 1)) < 16777216 := ofL_bound (progTo_24 hm hxo _)
                  have hsor : Hid (bits BinOp.or IntKind.i64 (S : Int) ((pw Y : Nat) : Int) = ((ofL (progTo m x d (k + 1)) : Nat) : Int)) := by unfold Hid; rw [hSe.out, hor.out, hS'.out]
                  have hsh := shl1 (x := Y) (by omega)
                  have hpl := pw_le (x := Y) (by omega)
                  have hY2 := hm.add_lt Y d
                  have hYe' : Hid (addN m Y d = stepN m x d (k + 1)) := by unfold Hid; rw [hYe.out]; rfl
                  clear ht hs hf
                  go_wp2_with fail
                  refine (l2Add_any _ _ _ _ _ _ _ hm (by omega) (by omega) hstr.st.grp).mono ?_; rintro e w5 ⟨rfl, hb5⟩; have hst5 := hstr.step hb5
                  clear hstr hb5 hbox
                  go_wp2
                  go_roundw
                  case rel => exact ⟨k + 1, _, _, by go_num, by omega, val_i hsor.out, hSb, rfl, rfl, hY2, hYe', hall', hst5⟩
                  case measure => simp [intOf]; omega
              · have hf : A.testBit Y = false := by simpa using ht
                rw [hf] at hA1
                have hru : Hid (runN m A x d = k) := runN_seen hm hxo hxA.out hk hall.out (.inl (by rw [← hYe.out]; exact hf))
                clear ht
                go_wp2
                go_roundw
                case rel => exact ⟨d + 1, max M k, by go_num, by omega, val_i (by omega), by unfold Hid; rw [hms.out, hru.out], hstr⟩
                case measure => simp [intOf]; omega
          · have hnx : Hid (M = bOut m A L (i + 1)) := by unfold Hid; rw [hos.out, hM.out, show d = prodN m from by omega]
            go_wp2
            go_roundw
            case rel => exact ⟨i + 1, M, by go_num, by omega, rfl, hnx, hst2⟩
            case measure => simp [intOf]; omega
      · have hend : Hid (bOut m A L L.length = N) := by unfold Hid; rw [hN.out, show i = L.length from by have := hlc.out; omega]
        go_wp2
        go_ret
        exact ⟨ret_i (by rw [hr.out, hend.out]), hstr.st.below⟩
  · have hn : isSetB l a = false := by simpa using h
    have hr := hid (longF_no hn)
    clear h
    go_enter Try.func50, Try.ntmps50
    go_wp2_with (first | (go_at_call 64; refine (sIsSet_any _ _ _ _ _ _ hl (St.grp (by assumption))).mono ?_; rintro e wN ⟨rfl, hbN⟩; have hstN := St.step (by assumption) hbN; have hboxN := hstN.box; clear hbN))
    go_ret
    exact ⟨ret_i (by rw [hr.out]), St.below (by assumption)⟩
end Go.Proofs.Ytpflnmcecnbilaa
