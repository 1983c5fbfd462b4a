/-
  Contracts: cubes in a set.
-/
import Derived.Test.YtalflbnplgmlpaaShift
import Derived.Test.YtalflbnplgmlpaaSet
import Derived.Test.YtalflbnplgmlpaaCard
import Derived.Deep.RegionHeld3
namespace Go.Proofs.Ytalflbnplgmlpaa
open Go.RowKit

def cubeN (m : List Nat) : Nat → Nat → Bool
  | 0, A => decide (A ≠ 0)
  | d + 1, A => (List.range (prodN m)).any fun x => decide (x ≠ 0) && cubeN m d (A &&& shiftN m A x)
theorem cubeN_zero (m : List Nat) : ∀ d, cubeN m d 0 = false
  | 0 => by simp [cubeN]
  | d + 1 => by
    rw [cubeN, Bool.eq_false_iff]; intro h
    rw [List.any_eq_true] at h
    obtain ⟨x, _, h⟩ := h
    rw [Nat.zero_and, cubeN_zero m d] at h; simp at h
theorem cube_yes {m : List Nat} {A d x : Nat} (h1 : 1 ≤ x) (hx : x < prodN m) (h : cubeN m d (A &&& shiftN m A x) = true) : cubeN m (d + 1) A = true := by
  rw [cubeN, List.any_eq_true]; exact ⟨x, List.mem_range.2 hx, by simp [h]; omega⟩
theorem cube_no {m : List Nat} {A d : Nat} (h : ∀ x, 1 ≤ x → x < prodN m → cubeN m d (A &&& shiftN m A x) = false) : cubeN m (d + 1) A = false := by
  rw [cubeN, Bool.eq_false_iff]; intro hc
  rw [List.any_eq_true] at hc
  obtain ⟨x, hx, hc⟩ := hc
  rw [List.mem_range] at hx
  simp only [Bool.and_eq_true, decide_eq_true_eq] at hc
  rw [h x (by omega) hx] at hc; simp at hc
theorem neg_neg' {m : List Nat} (hm : Ok m) {x : Nat} (hx : x < prodN m) : negN m (negN m x) = x :=
  hm.cancel (a := negN m x) (hm.neg_lt _) hx (by rw [addN_comm, hm.add_neg, hm.add_neg])
theorem neg_ne {m : List Nat} (hm : Ok m) {x : Nat} (hx : x < prodN m) (h : x ≠ 0) : negN m x ≠ 0 := fun e => h (by
  have h1 := hm.add_neg x
  rw [e, hm.add_zero hx] at h1; exact h1)
theorem cube_no_neg {m : List Nat} (hm : Ok m) {A d : Nat} (h : ∀ s, 1 ≤ s → s < prodN m → cubeN m d (A &&& shiftN m A (negN m s)) = false) : cubeN m (d + 1) A = false :=
  cube_no fun x h1 hx => by
    have h2 := neg_ne hm hx (by omega)
    have := h (negN m x) (by omega) (hm.neg_lt x)
    rwa [neg_neg' hm hx] at this
theorem and_lt_pow {A B n : Nat} (h : A < 2 ^ n) : A &&& B < 2 ^ n := Nat.lt_of_le_of_lt Nat.and_le_left h
theorem inB_nat {d : Nat} (h : d ≤ 4) : inB (d : Int) 0 4 = true := by simp [inB]; omega
set_option maxHeartbeats 1000000 in
theorem hasCube_yes (b off cap : Nat) (m : List Nat) (hm : Ok m) : ∀ (d : Nat), d ≤ 4 → ∀ (A : Nat) (w : World), A < 2 ^ prodN m → GrpAt w b off (cst m) →
    Calls Try.prog 34 #[.agg #[.slice (some ⟨b, off, none⟩) (cst m).length cap], .int .i64 A, .int .i64 d] w fun e w' => e = .returned (.bool (cubeN m d A)) ∧ Below w.heap.size w w' := by
  intro d
  induction d with
  | zero =>
    intro hd A w hA hg
    have hst := St.init cap 27 hg
    have hl : (cst m).length ≤ 1099511627776 := by rw [cst_length]; have := hm.len; omega
    have y1 := isSetB_nat hm hA
    have y2 : inB (0 : Int) 0 4 = true := by decide
    have hv : Hid (((A : Int) != 0) = cubeN m 0 A) := by
      unfold Hid; rw [Bool.eq_iff_iff]; simp [cubeN]
    go_enter Try.func34, Try.ntmps34
    go_wp2_with (first | (go_at_call 63; refine (isSet_any _ _ _ _ _ _ hl (St.grp (by assumption))).mono ?_; rintro e wN ⟨rfl, hbN⟩; have hstN := St.step (by assumption) hbN; have hboxN := hstN.box; clear hbN) | (go_at_call 57; refine (within_any _ _ _ _).mono ?_; rintro e wN ⟨rfl, rfl⟩))
    go_ret
    exact ⟨ret_b hv.out, St.below (by assumption)⟩
  | succ d ih =>
    intro hd A w hA hg
    have hst := St.init cap 27 hg
    have hl : (cst m).length ≤ 1099511627776 := by rw [cst_length]; have := hm.len; omega
    have y1 := isSetB_nat hm hA
    have hA' := Nat.lt_of_lt_of_le hA hm.pow_le
    have hord := hm.ord
    have hpos := hm.pos
    have ih := hid (ih (by omega))
    obtain ⟨D, hD⟩ : ∃ D, Hid (D = d + 1) := ⟨_, rfl⟩
    have y2 := inB_nat (d := D) (by have := hD.out; omega)
    rw [← hD.out]
    have hD0 : ((D : Int) == 0) = false := by rw [beq_eq_false_iff_ne]; have := hD.out; omega
    have hd1 : (D : Int) - 1 = (d : Int) := by have := hD.out; omega
    have hDb : D ≤ 4 := by have := hD.out; omega
    have hDp : 1 ≤ D := by have := hD.out; omega
    have hwd : IntKind.i64.wrap ((d : Nat) : Int) = (d : Int) := by rw [IntWalk.i64_left]; exact IntWalk.wrap64_in _ (by omega)
    clear hd
    by_cases hA0 : A = 0
    · have hz := hid (cubeN_zero m D)
      subst hA0
      go_enter Try.func34, Try.ntmps34
      go_wp2_with (first | (go_at_call 63; refine (isSet_any _ _ _ _ _ _ hl (St.grp (by assumption))).mono ?_; rintro e wN ⟨rfl, hbN⟩; have hstN := St.step (by assumption) hbN; have hboxN := hstN.box; clear hbN) | (go_at_call 57; refine (within_any _ _ _ _).mono ?_; rintro e wN ⟨rfl, rfl⟩))
      go_ret
      exact ⟨ret_b (by rw [hz.out]), St.below (by assumption)⟩
    · have hAi : ((A : Int) == 0) = false := by rw [beq_eq_false_iff_ne]; omega
      clear hA0
      go_enter Try.func34, Try.ntmps34
      go_wp2_with (first | (go_at_call 63; refine (isSet_any _ _ _ _ _ _ hl (St.grp (by assumption))).mono ?_; rintro e wN ⟨rfl, hbN⟩; have hstN := St.step (by assumption) hbN; have hboxN := hstN.box; clear hbN) | (go_at_call 57; refine (within_any _ _ _ _).mono ?_; rintro e wN ⟨rfl, rfl⟩))
      have hst1 : St w b off cap (cst m) wN := by assumption
      clear hst
      go_loopw [7] (fun i wr => ∃ s : Nat, i = .int .i64 s ∧ 1 ≤ s ∧ s ≤ prodN m ∧ Hid (∀ j, 1 ≤ j → j < s → cubeN m d (A &&& shiftN m A (negN m j)) = false) ∧ St w b off cap (cst m) wr) (fun i _ => prodN m - (intOf i).toNat)
      case atStart => exact ⟨1, rfl, by omega, by omega, (fun j h1 h2 => by omega), hst1⟩
      case round =>
        clear hst1
        rename_i wr
        obtain ⟨s, rfl, hs1, hs, hno, hstr⟩ := hrel
        have hbox := hstr.box
        go_wp2_with fail
        refine (orderOf_yes _ _ _ _ _ hm hstr.grp).mono ?_; rintro e w2 ⟨rfl, hb2⟩; have hst2 := hstr.step hb2
        have hstd := hst2.drew
        clear hstr hb2 hbox
        by_cases hlt : s < prodN m
        · have hng := hm.neg24 s
          have hsl : shiftN m A (negN m s) < 16777216 := Nat.lt_of_lt_of_le (hm.shift_lt A _) hm.pow_le
          have hand := bits_and_nat A (shiftN m A (negN m s)) (by omega) (by omega)
          have hC := and_lt_pow (B := shiftN m A (negN m s)) hA
          obtain ⟨C, hCe⟩ : ∃ C, Hid (A &&& shiftN m A (negN m s) = C) := ⟨_, rfl⟩
          rw [hCe.out] at hand hC
          by_cases hc : cubeN m d C = true
          · have hy : Hid (cubeN m D A = true) := by unfold Hid; rw [hD.out]; exact cube_yes (by have := neg_ne hm hlt (by omega); omega) (hm.neg_lt s) (by rw [hCe.out]; exact hc)
            go_wp2
            go_region_held3 (fun w' => w'.cell? ⟨w.heap.size, 0, none⟩ = some (.slice (some ⟨b, off, none⟩) (cst m).length cap) ∧ St w b off cap (cst m) w') (first | exact ⟨hstd.box, hstd⟩ | exact St.keep (by assumption) hb1)
              (first | (go_at_call 70; refine (negate_any _ _ _ _ _ _ hm (by omega) (St.grpOf (by assumption))).mono ?_; rintro e w1 ⟨rfl, hb1⟩) | (go_at_call 67; refine (shift_any _ _ _ _ _ _ _ hm hA' (by omega) (St.grpOf (by assumption))).mono ?_; rintro e w1 ⟨rfl, hb1⟩) | (go_at_call 34; (try rw [hwd]); (with_reducible show Calls Try.prog 34 #[_, .int .i64 (C : Int), .int .i64 (d : Int)] _ _); refine (ih.out _ _ hC (St.grpOf (by assumption))).mono ?_; rintro e w1 ⟨rfl, hb1⟩; rw [hc]))
            have hst3 : St w b off cap (cst m) w1 := And.right (by assumption)
            go_wp2
            go_ret
            exact ⟨ret_b (by rw [hy.out]), hst3.below⟩
          · have hf : cubeN m d C = false := by simpa using hc
            have hno' : Hid (∀ j, 1 ≤ j → j < s + 1 → cubeN m d (A &&& shiftN m A (negN m j)) = false) := fun j h1 h2 => by
              by_cases e : j = s
              · rw [e, hCe.out]; exact hf
              · exact hno.out j h1 (by omega)
            clear hc
            go_wp2
            go_region_held3 (fun w' => w'.cell? ⟨w.heap.size, 0, none⟩ = some (.slice (some ⟨b, off, none⟩) (cst m).length cap) ∧ St w b off cap (cst m) w') (first | exact ⟨hstd.box, hstd⟩ | exact St.keep (by assumption) hb1)
              (first | (go_at_call 70; refine (negate_any _ _ _ _ _ _ hm (by omega) (St.grpOf (by assumption))).mono ?_; rintro e w1 ⟨rfl, hb1⟩) | (go_at_call 67; refine (shift_any _ _ _ _ _ _ _ hm hA' (by omega) (St.grpOf (by assumption))).mono ?_; rintro e w1 ⟨rfl, hb1⟩) | (go_at_call 34; (try rw [hwd]); (with_reducible show Calls Try.prog 34 #[_, .int .i64 (C : Int), .int .i64 (d : Int)] _ _); refine (ih.out _ _ hC (St.grpOf (by assumption))).mono ?_; rintro e w1 ⟨rfl, hb1⟩; rw [hf]))
            have hst3 : St w b off cap (cst m) w1 := And.right (by assumption)
            go_wp2
            go_roundw
            case rel => exact ⟨s + 1, by go_num, by omega, by omega, hno', hst3⟩
            case measure => simp [intOf]; omega
        · have hy : Hid (cubeN m D A = false) := by unfold Hid; rw [hD.out]; exact cube_no_neg hm fun j h1 h2 => hno.out j h1 (by omega)
          go_wp2
          go_ret
          exact ⟨ret_b (by rw [hy.out]), hst2.below⟩
set_option maxHeartbeats 1000000 in
theorem l14Cube_yes (b off cap : Nat) (m : List Nat) (hm : Ok m) : ∀ (d : Nat), d ≤ 4 → ∀ (A : Nat) (w : World), A < 2 ^ prodN m → GrpAt w b off (cst m) →
    Calls Try.prog 69 #[.agg #[.slice (some ⟨b, off, none⟩) (cst m).length cap], .int .i64 A, .int .i64 d] w fun e w' => e = .returned (.bool (cubeN m d A)) ∧ Below w.heap.size w w' := by
  intro d
  induction d with
  | zero =>
    intro hd A w hA hg
    have hst := St.init cap 27 hg
    have hA' := Nat.lt_of_lt_of_le hA hm.pow_le
    by_cases h0 : A = 0
    · have hv : Hid (cubeN m 0 A = false) := by rw [h0]; exact cubeN_zero m 0
      subst h0
      go_enter Try.func69, Try.ntmps69
      go_wp2
      go_ret
      exact ⟨ret_b (by rw [hv.out]), hst.below⟩
    · have hv : Hid (cubeN m 0 A = true) := by simp [Hid, cubeN, h0]
      have hp : 0 < A := by omega
      clear h0
      go_enter Try.func69, Try.ntmps69
      go_wp2
      go_ret
      exact ⟨ret_b (by rw [hv.out]), hst.below⟩
  | succ d ih =>
    intro hd A w hA hg
    have hst := St.init cap 27 hg
    have hA' := Nat.lt_of_lt_of_le hA hm.pow_le
    have hord := hm.ord
    have hpos := hm.pos
    have ih := hid (ih (by omega))
    obtain ⟨D, hD⟩ : ∃ D, Hid (D = d + 1) := ⟨_, rfl⟩
    rw [← hD.out]
    have hD0 : ((D : Int) == 0) = false := by rw [beq_eq_false_iff_ne]; have := hD.out; omega
    have hd1 : (D : Int) - 1 = (d : Int) := by have := hD.out; omega
    have hDb : D ≤ 4 := by have := hD.out; omega
    have hDp : 1 ≤ D := by have := hD.out; omega
    have hwd : IntKind.i64.wrap ((d : Nat) : Int) = (d : Int) := by rw [IntWalk.i64_left]; exact IntWalk.wrap64_in _ (by omega)
    clear hd
    go_enter Try.func69, Try.ntmps69
    go_wp2
    go_loopw [7] (fun i wr => ∃ s : Nat, i = .int .i64 s ∧ 1 ≤ s ∧ s ≤ prodN m ∧ Hid (∀ j, 1 ≤ j → j < s → cubeN m d (A &&& shiftN m A j) = false) ∧ St w b off cap (cst m) wr) (fun i _ => prodN m - (intOf i).toNat)
    case atStart => exact ⟨1, rfl, by omega, by omega, (fun j h1 h2 => by omega), hst⟩
    case round =>
      clear hst
      rename_i wr
      obtain ⟨s, rfl, hs1, hs, hno, hstr⟩ := hrel
      have hbox := hstr.box
      go_wp2_with fail
      refine (l2Order_any _ _ _ _ _ hm hstr.grp).mono ?_; rintro e w2 ⟨rfl, hb2⟩; have hst2 := hstr.step hb2; have hbox2 := hst2.box
      clear hstr hb2 hbox
      by_cases hlt : s < prodN m
      · have hsl : shiftN m A s < 16777216 := Nat.lt_of_lt_of_le (hm.shift_lt A _) hm.pow_le
        have hand := bits_and_nat A (shiftN m A s) (by omega) (by omega)
        have hC := and_lt_pow (B := shiftN m A s) hA
        obtain ⟨C, hCe⟩ : ∃ C, Hid (A &&& shiftN m A s = C) := ⟨_, rfl⟩
        rw [hCe.out] at hand hC
        have hC' := Nat.lt_of_lt_of_le hC hm.pow_le
        go_wp2_with fail
        refine (l3Shift_any _ _ _ _ _ _ _ hm hA' (by omega) hst2.grp).mono ?_; rintro e w3 ⟨rfl, hb3⟩; have hst3 := hst2.step hb3; have hbox3 := hst3.box
        clear hst2 hb3 hbox2
        by_cases h0 : C = 0
        · have hno' : Hid (∀ j, 1 ≤ j → j < s + 1 → cubeN m d (A &&& shiftN m A j) = false) := fun j h1 h2 => by
            by_cases e : j = s
            · rw [e, hCe.out, h0]; exact cubeN_zero m d
            · exact hno.out j h1 (by omega)
          subst h0
          go_wp2
          go_roundw
          case rel => exact ⟨s + 1, by go_num, by omega, by omega, hno', hst3⟩
          case measure => simp [intOf]; omega
        · have hp : 0 < C := by omega
          clear h0
          by_cases hc : cubeN m d C = true
          · have hy : Hid (cubeN m D A = true) := by unfold Hid; rw [hD.out]; exact cube_yes hs1 hlt (by rw [hCe.out]; exact hc)
            go_wp2_with fail
            (try rw [hwd])
            refine (ih.out _ _ hC hst3.grp).mono ?_; rintro e w4 ⟨rfl, hb4⟩; rw [hc]; have hst4 := hst3.step hb4
            go_wp2
            go_ret
            exact ⟨ret_b (by rw [hy.out]), hst4.below⟩
          · have hf : cubeN m d C = false := by simpa using hc
            have hno' : Hid (∀ j, 1 ≤ j → j < s + 1 → cubeN m d (A &&& shiftN m A j) = false) := fun j h1 h2 => by
              by_cases e : j = s
              · rw [e, hCe.out]; exact hf
              · exact hno.out j h1 (by omega)
            clear hc
            go_wp2_with fail
            (try rw [hwd])
            refine (ih.out _ _ hC hst3.grp).mono ?_; rintro e w4 ⟨rfl, hb4⟩; rw [hf]; have hst4 := hst3.step hb4
            go_wp2
            go_roundw
            case rel => exact ⟨s + 1, by go_num, by omega, by omega, hno', hst4⟩
            case measure => simp [intOf]; omega
      · have hy : Hid (cubeN m D A = false) := by unfold Hid; rw [hD.out]; exact cube_no fun j h1 h2 => hno.out j h1 (by omega)
        go_wp2
        go_ret
        exact ⟨ret_b (by rw [hy.out]), hst2.below⟩
def hasOk (l : List Int) (a d : Int) : Bool := isSetB l a && inB d 0 4
theorem hasOk_yes {l : List Int} {a d : Int} (h : hasOk l a d = true) : isSetB l a = true ∧ inB d 0 4 = true := by simpa [hasOk] using h
theorem hasOk_no {l : List Int} {a d : Int} (h : hasOk l a d = false) : isSetB l a = false ∨ (isSetB l a = true ∧ inB d 0 4 = false) := by
  cases h1 : isSetB l a <;> cases h2 : inB d 0 4 <;> simp_all [hasOk]
theorem hasOk_iff {l : List Int} {a d : Int} (h : hasOk l a d = true) : ∃ (m : List Nat) (A D : Nat), Ok m ∧ l = cst m ∧ a = ((A : Nat) : Int) ∧ d = ((D : Nat) : Int) ∧ A < 2 ^ prodN m ∧ D ≤ 4 := by
  obtain ⟨h1, h2⟩ := hasOk_yes h
  obtain ⟨m, A, hm, rfl, rfl, hA⟩ := isSetB_iff.1 h1
  simp only [inB, Bool.and_eq_true, decide_eq_true_eq] at h2
  exact ⟨m, A, d.toNat, hm, rfl, rfl, by omega, hA, by omega⟩
def hasF (l : List Int) (a d : Int) : Bool := hasOk l a d && cubeN (toN l) d.toNat a.toNat
theorem hasF_yes {m : List Nat} {A D : Nat} (h : hasOk (cst m) A D = true) : hasF (cst m) A D = cubeN m D A := by simp only [hasF, h, toN_cst, Int.toNat_natCast]; simp
theorem hasF_no {l : List Int} {a d : Int} (h : hasOk l a d = false) : hasF l a d = false := by simp [hasF, h]
theorem hasCube_any (b off cap : Nat) (l : List Int) (a d : Int) (w : World) (hl : l.length ≤ 1099511627776) (hg : GrpAt w b off l) :
    Calls Try.prog 34 #[.agg #[.slice (some ⟨b, off, none⟩) l.length cap], .int .i64 a, .int .i64 d] w fun e w' => e = .returned (.bool (hasF l a d)) ∧ Below w.heap.size w w' := by
  by_cases h : hasOk l a d = true
  · have h2 := hasOk_iff h
    obtain ⟨m, A, D, hm, rfl, rfl, rfl, hA, hD⟩ := h2
    rw [hasF_yes h]
    exact hasCube_yes _ _ _ _ hm D hD A w hA hg
  · have hst := St.init cap 27 hg
    have hn : hasOk l a d = false := by simpa using h
    have hr := hid (hasF_no hn)
    clear h
    rcases hasOk_no hn with h1 | ⟨h1, h2⟩
    all_goals
      go_enter Try.func34, Try.ntmps34
      go_wp2_with (first | (go_at_call 63; refine (isSet_any _ _ _ _ _ _ hl (St.grp (by assumption))).mono ?_; rintro e wN ⟨rfl, hbN⟩; have hstN := St.step (by assumption) hbN; have hboxN := hstN.box; clear hbN) | (go_at_call 57; refine (within_any _ _ _ _).mono ?_; rintro e wN ⟨rfl, rfl⟩))
      go_ret
      exact ⟨ret_b (by rw [hr.out]), St.below (by assumption)⟩
theorem sHasCube_any (b off cap : Nat) (l : List Int) (a d : Int) (w : World) (hl : l.length ≤ 1099511627776) (hg : GrpAt w b off l) :
    Calls Try.prog 33 #[.agg #[.slice (some ⟨b, off, none⟩) l.length cap], .int .i64 a, .int .i64 d] w fun e w' => e = .returned (.bool (hasF l a d)) ∧ Below w.heap.size w w' := by
  have hst := St.init cap 27 hg
  by_cases h : hasOk l a d = true
  · obtain ⟨y1, y2⟩ := hasOk_yes h
    have h2 := hasOk_iff h
    obtain ⟨m, A, D, hm, rfl, rfl, rfl, hA, hD⟩ := h2
    have hr := hid (hasF_yes h)
    clear h
    go_enter Try.func33, Try.ntmps33
    go_wp2_with (first | (go_at_call 60; refine (sIsSet_any _ _ _ _ _ _ hl (St.grp (by assumption))).mono ?_; rintro e wN ⟨rfl, hbN⟩; have hstN := St.step (by assumption) hbN; have hboxN := hstN.box; clear hbN) | (go_at_call 68; refine (l1In_any _ _ _ _).mono ?_; rintro e wN ⟨rfl, rfl⟩))
    refine (l14Cube_yes _ _ _ _ hm D hD A _ hA (St.grp (by assumption))).mono ?_; rintro e w1 ⟨rfl, hb1⟩; have hst2 : St w b off cap (cst m) w1 := St.step (by assumption) hb1
    go_wp2
    go_ret
    exact ⟨ret_b (by rw [hr.out]), hst2.below⟩
  · have hn : hasOk l a d = false := by simpa using h
    have hr := hid (hasF_no hn)
    clear h
    rcases hasOk_no hn with h1 | ⟨h1, h2⟩
    all_goals
      go_enter Try.func33, Try.ntmps33
      go_wp2_with (first | (go_at_call 60; refine (sIsSet_any _ _ _ _ _ _ hl (St.grp (by assumption))).mono ?_; rintro e wN ⟨rfl, hbN⟩; have hstN := St.step (by assumption) hbN; have hboxN := hstN.box; clear hbN) | (go_at_call 68; refine (l1In_any _ _ _ _).mono ?_; rintro e wN ⟨rfl, rfl⟩))
      go_ret
      exact ⟨ret_b (by rw [hr.out]), St.below (by assumption)⟩
end Go.Proofs.Ytalflbnplgmlpaa
