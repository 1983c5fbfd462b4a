/-
  Contracts: shifts of a set packed without meeting.
-/
import Derived.Test.YtpflnmcecnbilaaFull
import Derived.Test.YtpflnmcecnbilaaSum
import Derived.Test.YtpflnmcecnbilaaBits
import Derived.Deep.RegionHeld3
namespace Go.Proofs.Ytpflnmcecnbilaa
open Go.RowKit

theorem or_lt24 {a b : Nat} (ha : a < 16777216) (hb : b < 16777216) : a ||| b < 16777216 := Nat.or_lt_two_pow (n := 24) ha hb
def packTo (m : List Nat) (B : Nat) (K : List Nat) : Nat → Nat × Nat
  | 0 => (0, 0)
  | k + 1 => if shiftN m B (K.getD k 0) &&& (packTo m B K k).2 = 0 then ((packTo m B K k).1 ||| pw (K.getD k 0), (packTo m B K k).2 ||| shiftN m B (K.getD k 0)) else packTo m B K k
theorem packTo_yes {m K : List Nat} {B k x O R : Nat} (hP : packTo m B K k = (O, R)) (hx : K.getD k 0 = x) (h : shiftN m B x &&& R = 0) : packTo m B K (k + 1) = (O ||| pw x, R ||| shiftN m B x) := by
  simp only [packTo, hP, hx]; rw [if_pos h]
theorem packTo_no {m K : List Nat} {B k x O R : Nat} (hP : packTo m B K k = (O, R)) (hx : K.getD k 0 = x) (h : ¬ shiftN m B x &&& R = 0) : packTo m B K (k + 1) = (O, R) := by
  simp only [packTo, hP, hx]; rw [if_neg h]
def packN (m : List Nat) (A B : Nat) : Nat := (packTo m B (mem A) (mem A).length).1
theorem packTo_lt {m : List Nat} (hm : Ok m) (B : Nat) {K : List Nat} (hK : ∀ x ∈ K, x < 24) : ∀ k, k ≤ K.length → (packTo m B K k).1 < 16777216
  | 0, _ => by simp [packTo]
  | k + 1, hk => by
    have ih := packTo_lt hm B hK k (by omega)
    have hx : K.getD k 0 < 24 := hK _ (getD_mem K 0 k (by omega))
    simp only [packTo]
    split
    · exact or_lt24 ih (by rw [pw_eq]; exact Nat.pow_lt_pow_right (a := 2) (n := 24) (by omega) hx)
    · exact ih
theorem packN_lt {m : List Nat} (hm : Ok m) (A B : Nat) : packN m A B < 16777216 := packTo_lt hm B (fun _ h => mem_lt h) _ (Nat.le_refl _)
def covOk (l : List Int) (a b : Int) : Bool := two l a b && !(b == 0)
theorem covOk_yes {l : List Int} {a b : Int} (h : covOk l a b = true) : two l a b = true ∧ isSetB l a = true ∧ isSetB l b = true ∧ (b == 0) = false := by
  simp only [covOk, Bool.and_eq_true, Bool.not_eq_true'] at h; exact ⟨h.1, (two_yes h.1).1, (two_yes h.1).2, h.2⟩
theorem covOk_no {l : List Int} {a b : Int} (h : covOk l a b = false) : two l a b = false ∨ (two l a b = true ∧ isSetB l a = true ∧ isSetB l b = true ∧ (b == 0) = true) := by
  cases h1 : two l a b
  · exact .inl rfl
  · refine .inr ⟨rfl, (two_yes h1).1, (two_yes h1).2, ?_⟩
    simpa [covOk, h1] using h
def covA (l : List Int) (a b : Int) : Int := if covOk l a b = true then ((packN (toN l) a.toNat b.toNat : Nat) : Int) else 0
theorem covA_yes {m : List Nat} {A B : Nat} (h : covOk (cst m) A B = true) : covA (cst m) A B = ((packN m A B : Nat) : Int) := by
  unfold covA; rw [if_pos h, toN_cst, Int.toNat_natCast, Int.toNat_natCast]
theorem covA_no {l : List Int} {a b : Int} (h : covOk l a b = false) : covA l a b = 0 := by unfold covA; rw [if_neg (by simp [h])]
theorem ret_ib {a a' : Int} {b b' : Bool} (h1 : a = a') (h2 : b = b') : Ending.returned (.tuple #[.int .i64 a, .bool b]) = .returned (.tuple #[.int .i64 a', .bool b']) := by rw [h1, h2]
set_option maxHeartbeats 400000 in
theorem ruzsaCover_any (b off cap : Nat) (l : List Int) (x y : Int) (w : World) (hl : l.length ≤ 1099511627776) (hg : GrpAt w b off l) :
    Calls Try.prog 66 #[.agg #[.slice (some ⟨b, off, none⟩) l.length cap], .int .i64 x, .int .i64 y] w fun e w' => e = .returned (.tuple #[.int .i64 (covA l x y), .bool (covOk l x y)]) ∧ Below w.heap.size w w' := by
  have hst := St.init cap 26 hg
  have hst1 := hst.step ((Below.refl _ _).alloc (Nat.le_refl _) (.cells #[.int .i64 x, .int .i64 y] 3))
  have hg2 := GrpAt.two (w.alloc (.cells #[.slice (some ⟨b, off, none⟩) l.length cap] 26)) x y 3 (w.heap.size + 1) (by simp)
  by_cases h : covOk l x y = true
  · obtain ⟨y1, y2, y3, y4⟩ := covOk_yes h
    have h2 := two_iff.1 y1
    obtain ⟨m, A, B, hm, rfl, rfl, rfl, hA, hB⟩ := h2
    have hr := hid (covA_yes h)
    have hok := hid h
    have hA' := Nat.lt_of_lt_of_le hA hm.pow_le
    have hB' := Nat.lt_of_lt_of_le hB hm.pow_le
    have hL24 : (cst (mem A)).length ≤ 24 := by rw [cst_length]; exact card_le A
    clear h hA hB
    go_enter Try.func66, Try.ntmps66
    go_wp2_with fail
    refine (areSets_two _ _ _ _ _ _ _ _ _ hl hst1.grp hg2).mono ?_; rintro e w1 ⟨rfl, hb1⟩; have hst2 := hst1.step hb1
    clear hst hst1 hg2 hb1
    go_wp2_with fail
    refine (members_any A _ hA').mono ?_; rintro e w2 ⟨g, gc, rfl, hmade⟩
    have hstl : StL w b off cap (cst m) g (cst (mem A)) w2 := ⟨hst2.step hmade.below, hmade.grp⟩
    clear hmade hst2 hg
    go_wp2
    go_loopw [8, 9, 26] (fun o r i wr => ∃ k O R : Nat, i = .int .i64 k ∧ k ≤ (cst (mem A)).length ∧ o = .int .i64 O ∧ r = .int .i64 R ∧ O < 16777216 ∧ R < 16777216 ∧ Hid (packTo m B (mem A) k = (O, R)) ∧ StL w b off cap (cst m) g (cst (mem A)) wr) (fun _ _ i _ => (cst (mem A)).length - (intOf i).toNat)
    case atStart => exact ⟨0, 0, 0, rfl, by omega, rfl, rfl, by omega, by omega, rfl, hstl⟩
    case round =>
      clear hstl
      rename_i wr
      obtain ⟨k, O, R, rfl, hk, rfl, rfl, hO, hR, hP, hstr⟩ := hrel
      by_cases hlt : k < (cst (mem A)).length
      · obtain ⟨x, hx⟩ : ∃ x, Hid ((mem A).getD k 0 = x) := ⟨_, rfl⟩
        have hx24 : x < 24 := by rw [← hx.out]; exact mem_getD_lt hlt
        have hs := shiftN_lt hm B x
        have hck := hstr.lst.nat0 k hlt
        rw [hx.out] at hck
        have hbox := hstr.st.box
        have hsh := shl1 (x := x) (by omega)
        have hpl := pw_le (x := x) (by omega)
        have hplt : pw x < 16777216 := by rw [pw_eq]; exact Nat.pow_lt_pow_right (a := 2) (n := 24) (by omega) hx24
        by_cases he : shiftN m B x &&& R = 0
        · have ht : (bits BinOp.and IntKind.i64 ((shiftN m B x : Nat) : Int) (R : Int) == 0) = true := by rw [bits_and_nat _ _ (by omega) (by omega), he]; rfl
          have ho1 := hid (bits_or_nat O (pw x) (by omega) (by omega))
          have hr1 := hid (bits_or_nat R (shiftN m B x) (by omega) (by omega))
          have hP' := hid (packTo_yes hP.out hx.out he)
          have hO' := hid (or_lt24 hO hplt)
          have hR' := hid (or_lt24 hR hs)
          clear he
          go_wp2_with (go_at_call 158; refine (shift_any _ _ _ _ _ _ _ hm hB' (by omega) hstr.st.grp).mono ?_; rintro e w3 ⟨rfl, hb3⟩; have hst3 := hstr.step hb3; clear hb3)
          go_roundw
          case rel => exact ⟨k + 1, _, _, by go_num, by omega, val_i ho1.out, val_i hr1.out, hO'.out, hR'.out, hP', hst3⟩
          case measure => simp [intOf]; omega
        · have ht : (bits BinOp.and IntKind.i64 ((shiftN m B x : Nat) : Int) (R : Int) == 0) = false := by rw [bits_and_nat _ _ (by omega) (by omega), beq_eq_false_iff_ne]; omega
          have hP' := hid (packTo_no hP.out hx.out he)
          clear he
          go_wp2_with (go_at_call 158; refine (shift_any _ _ _ _ _ _ _ hm hB' (by omega) hstr.st.grp).mono ?_; rintro e w3 ⟨rfl, hb3⟩; have hst3 := hstr.step hb3; clear hb3)
          go_roundw
          case rel => exact ⟨k + 1, _, _, by go_num, by omega, rfl, rfl, hO, hR, hP', hst3⟩
          case measure => simp [intOf]; omega
      · have hend : Hid (O = packN m A B) := by
          have e : k = (mem A).length := by rw [← cst_length]; omega
          unfold Hid packN; rw [← e, hP.out]
        go_wp2
        go_ret2
        exact ⟨ret_ib (by rw [hr.out, hend.out]) (by rw [hok.out]), hstr.st.below⟩
  · have hn : covOk l x y = false := by simpa using h
    have hr := hid (covA_no hn)
    have hok := hid hn
    clear h
    rcases covOk_no hn with h1 | ⟨h1, h2, h3, h4⟩
    all_goals
      go_enter Try.func66, Try.ntmps66
      go_wp2_with fail
      refine (areSets_two _ _ _ _ _ _ _ _ _ hl hst1.grp hg2).mono ?_; rintro e w1 ⟨rfl, hb1⟩; have hst2 := hst1.step hb1
      clear hst hst1 hg2 hb1
      go_wp2
      go_ret2
      exact ⟨ret_ib (by rw [hr.out]) (by rw [hok.out]), hst2.below⟩
set_option maxHeartbeats 400000 in
theorem sRuzsaCover_any (b off cap : Nat) (l : List Int) (x y : Int) (w : World) (hl : l.length ≤ 1099511627776) (hg : GrpAt w b off l) :
    Calls Try.prog 67 #[.agg #[.slice (some ⟨b, off, none⟩) l.length cap], .int .i64 x, .int .i64 y] w fun e w' => e = .returned (.tuple #[.int .i64 (covA l x y), .bool (covOk l x y)]) ∧ Below w.heap.size w w' := by
  have hst := St.init cap 26 hg
  by_cases h : covOk l x y = true
  · obtain ⟨y1, y2, y3, y4⟩ := covOk_yes h
    have h2 := two_iff.1 y1
    obtain ⟨m, A, B, hm, rfl, rfl, rfl, hA, hB⟩ := h2
    have hr := hid (covA_yes h)
    have hok := hid h
    have hA' := Nat.lt_of_lt_of_le hA hm.pow_le
    have hB' := Nat.lt_of_lt_of_le hB hm.pow_le
    have hL24 : (cst (mem A)).length ≤ 24 := by rw [cst_length]; exact card_le A
    clear h hA hB
    go_enter Try.func67, Try.ntmps67
    go_wp2_with (first | (go_at_call 64; refine (sIsSet_any _ _ _ _ _ _ hl (St.grp (by assumption))).mono ?_; rintro e wN ⟨rfl, hbN⟩; have hstN := St.step (by assumption) hbN; have hboxN := hstN.box; clear hbN))
    have hst2 : St w b off cap (cst m) wN := by assumption
    clear hst hboxN
    refine (l3List_any A _ hA').mono ?_; rintro e w2 ⟨g, gc, rfl, hmade⟩
    have hstl : StL w b off cap (cst m) g (cst (mem A)) w2 := ⟨hst2.step hmade.below, hmade.grp⟩
    clear hmade hst2 hg
    go_wp2
    go_loopw [8, 9, 11] (fun o r i wr => ∃ k O R : Nat, i = .int .i64 k ∧ k ≤ (cst (mem A)).length ∧ o = .int .i64 O ∧ r = .int .i64 R ∧ O < 16777216 ∧ R < 16777216 ∧ Hid (packTo m B (mem A) k = (O, R)) ∧ StL w b off cap (cst m) g (cst (mem A)) wr) (fun _ _ i _ => (cst (mem A)).length - (intOf i).toNat)
    case atStart => exact ⟨0, 0, 0, rfl, by omega, rfl, rfl, by omega, by omega, rfl, hstl⟩
    case round =>
      clear hstl
      rename_i wr
      obtain ⟨k, O, R, rfl, hk, rfl, rfl, hO, hR, hP, hstr⟩ := hrel
      by_cases hlt : k < (cst (mem A)).length
      · obtain ⟨x, hx⟩ : ∃ x, Hid ((mem A).getD k 0 = x) := ⟨_, rfl⟩
        have hx24 : x < 24 := by rw [← hx.out]; exact mem_getD_lt hlt
        have hs := shiftN_lt hm B x
        have hst0 := hstr.drew.hold hlt hx
        have hsh := shl1 (x := x) (by omega)
        have hpl := pw_le (x := x) (by omega)
        have hplt : pw x < 16777216 := by rw [pw_eq]; exact Nat.pow_lt_pow_right (a := 2) (n := 24) (by omega) hx24
        clear hstr
        by_cases he : shiftN m B x &&& R = 0
        · have ht : (bits BinOp.and IntKind.i64 ((shiftN m B x : Nat) : Int) (R : Int) == 0) = true := by rw [bits_and_nat _ _ (by omega) (by omega), he]; rfl
          have ho1 := hid (bits_or_nat O (pw x) (by omega) (by omega))
          have hr1 := hid (bits_or_nat R (shiftN m B x) (by omega) (by omega))
          have hP' := hid (packTo_yes hP.out hx.out he)
          have hO' := hid (or_lt24 hO hplt)
          have hR' := hid (or_lt24 hR hs)
          clear he
          go_wp2
          go_region_held3 (fun w' => w'.cell? ⟨w.heap.size, 0, none⟩ = some (.slice (some ⟨b, off, none⟩) (cst m).length cap) ∧ w'.cell? ⟨g, k, none⟩ = some (.int .i64 (x : Int)) ∧ StL w b off cap (cst m) g (cst (mem A)) w') (first | exact hst0 | exact StL.keep (by assumption) hlt hx hb1)
            (first | (go_at_call 159; refine (l3Shift_any _ _ _ _ _ _ _ hm hB' (by omega) (StL.grpOf (by assumption))).mono ?_; rintro e w1 ⟨rfl, hb1⟩))
          have hst2 : StL w b off cap (cst m) g (cst (mem A)) w1 := And.right (And.right (by assumption))
          have hck := hst2.lst.nat0 k hlt
          rw [hx.out] at hck
          go_wp2
          go_roundw
          case rel => exact ⟨k + 1, _, _, by go_num, by omega, val_i ho1.out, val_i hr1.out, hO'.out, hR'.out, hP', hst2⟩
          case measure => simp [intOf]; omega
        · have ht : (bits BinOp.and IntKind.i64 ((shiftN m B x : Nat) : Int) (R : Int) == 0) = false := by rw [bits_and_nat _ _ (by omega) (by omega), beq_eq_false_iff_ne]; omega
          have hP' := hid (packTo_no hP.out hx.out he)
          clear he
          go_wp2
          go_region_held3 (fun w' => w'.cell? ⟨w.heap.size, 0, none⟩ = some (.slice (some ⟨b, off, none⟩) (cst m).length cap) ∧ w'.cell? ⟨g, k, none⟩ = some (.int .i64 (x : Int)) ∧ StL w b off cap (cst m) g (cst (mem A)) w') (first | exact hst0 | exact StL.keep (by assumption) hlt hx hb1)
            (first | (go_at_call 159; refine (l3Shift_any _ _ _ _ _ _ _ hm hB' (by omega) (StL.grpOf (by assumption))).mono ?_; rintro e w1 ⟨rfl, hb1⟩))
          have hst2 : StL w b off cap (cst m) g (cst (mem A)) w1 := And.right (And.right (by assumption))
          go_wp2
          go_roundw
          case rel => exact ⟨k + 1, _, _, by go_num, by omega, rfl, rfl, hO, hR, hP', hst2⟩
          case measure => simp [intOf]; omega
      · have hend : Hid (O = packN m A B) := by
          have e : k = (mem A).length := by rw [← cst_length]; omega
          unfold Hid packN; rw [← e, hP.out]
        go_wp2
        go_ret2
        exact ⟨ret_ib (by rw [hr.out, hend.out]) (by rw [hok.out]), hstr.st.below⟩
  · have hn : covOk l x y = false := by simpa using h
    have hr := hid (covA_no hn)
    have hok := hid hn
    clear h
    have hcase : (isSetB l x = false) ∨ (isSetB l x = true ∧ isSetB l y = false) ∨ (isSetB l x = true ∧ isSetB l y = true ∧ (y == 0) = true) := by
      rcases covOk_no hn with h1 | ⟨h1, h2, h3, h4⟩
      · rcases two_no h1 with h3 | h3
        · exact .inl h3
        · exact .inr (.inl h3)
      · exact .inr (.inr ⟨h2, h3, h4⟩)
    rcases hcase with h1 | ⟨h1, h2⟩ | ⟨h1, h2, h3⟩
    all_goals
      go_enter Try.func67, Try.ntmps67
      go_wp2_with (first | (go_at_call 64; refine (sIsSet_any _ _ _ _ _ _ hl (St.grp (by assumption))).mono ?_; rintro e wN ⟨rfl, hbN⟩; have hstN := St.step (by assumption) hbN; have hboxN := hstN.box; clear hbN))
      go_ret2
      exact ⟨ret_ib (by rw [hr.out]) (by rw [hok.out]), St.below (by assumption)⟩
def packedF (l : List Int) (a b : Int) : Int := if covOk l a b = true then ((card (packN (toN l) a.toNat b.toNat) : Nat) : Int) else -1
theorem packedF_yes {m : List Nat} {A B : Nat} (h : covOk (cst m) A B = true) : packedF (cst m) A B = ((card (packN m A B) : Nat) : Int) := by
  unfold packedF; rw [if_pos h, toN_cst, Int.toNat_natCast, Int.toNat_natCast]
theorem packedF_no {l : List Int} {a b : Int} (h : covOk l a b = false) : packedF l a b = -1 := by unfold packedF; rw [if_neg (by simp [h])]
set_option maxHeartbeats 400000 in
theorem packedShifts_any (b off cap : Nat) (l : List Int) (x y : Int) (w : World) (hl : l.length ≤ 1099511627776) (hg : GrpAt w b off l) :
    Calls Try.prog 68 #[.agg #[.slice (some ⟨b, off, none⟩) l.length cap], .int .i64 x, .int .i64 y] w fun e w' => e = .returned (.int .i64 (packedF l x y)) ∧ Below w.heap.size w w' := by
  have hst := St.init cap 26 hg
  go_enter Try.func68, Try.ntmps68
  go_wp2_with fail
  refine (ruzsaCover_any _ _ _ _ _ _ _ hl hst.grp).mono ?_; rintro e w1 ⟨rfl, hb1⟩; have hst1 := hst.step hb1
  clear hst hb1
  by_cases h : covOk l x y = true
  · obtain ⟨y1, y2, y3, y4⟩ := covOk_yes h
    have h2 := two_iff.1 y1
    obtain ⟨m, A, B, hm, rfl, rfl, rfl, hA, hB⟩ := h2
    have hM := packN_lt hm A B
    have hr := hid (packedF_yes h)
    rw [covA_yes h]
    go_wp2_with fail
    refine (bits_any _ _ hM).mono ?_; rintro e w3 ⟨rfl, rfl⟩
    go_wp2
    go_ret
    exact ⟨ret_i (by rw [hr.out]), hst1.below⟩
  · have hn : covOk l x y = false := by simpa using h
    have hr := hid (packedF_no hn)
    clear h
    go_wp2
    go_ret
    exact ⟨ret_i (by rw [hr.out]), hst1.below⟩
set_option maxHeartbeats 400000 in
theorem sPackedShifts_any (b off cap : Nat) (l : List Int) (x y : Int) (w : World) (hl : l.length ≤ 1099511627776) (hg : GrpAt w b off l) :
    Calls Try.prog 77 #[.agg #[.slice (some ⟨b, off, none⟩) l.length cap], .int .i64 x, .int .i64 y] w fun e w' => e = .returned (.int .i64 (packedF l x y)) ∧ Below w.heap.size w w' := by
  have hst := St.init cap 26 hg
  go_enter Try.func77, Try.ntmps77
  go_wp2_with fail
  refine (sRuzsaCover_any _ _ _ _ _ _ _ hl hst.grp).mono ?_; rintro e w1 ⟨rfl, hb1⟩; have hst1 := hst.step hb1
  clear hst hb1
  by_cases h : covOk l x y = true
  · obtain ⟨y1, y2, y3, y4⟩ := covOk_yes h
    have h2 := two_iff.1 y1
    obtain ⟨m, A, B, hm, rfl, rfl, rfl, hA, hB⟩ := h2
    have hM := packN_lt hm A B
    have hr := hid (packedF_yes h)
    rw [covA_yes h]
    go_wp2_with fail
    refine (l3Bits_any _ _ hM).mono ?_; rintro e w3 ⟨rfl, rfl⟩
    go_wp2
    go_ret
    exact ⟨ret_i (by rw [hr.out]), hst1.below⟩
  · have hn : covOk l x y = false := by simpa using h
    have hr := hid (packedF_no hn)
    clear h
    go_wp2
    go_ret
    exact ⟨ret_i (by rw [hr.out]), hst1.below⟩
end Go.Proofs.Ytpflnmcecnbilaa
