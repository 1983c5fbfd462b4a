/-
  Contracts: whether a part has the least ratio.
-/
import Derived.Test.YtpflnmcecnbilaaLeast2
import Derived.Test.YtpflnmcecnbilaaRcov2
namespace Go.Proofs.Ytpflnmcecnbilaa
open Go.RowKit

/-! ### fractions in lowest terms -/
theorem low_iff {n q r s : Nat} (hq : 0 < q) (hs : 0 < s) : (n / gcdN n q = r / gcdN r s ∧ q / gcdN n q = s / gcdN r s) ↔ n * s = r * q := by
  unfold gcdN
  have g1 : 0 < Nat.gcd n q := Nat.gcd_pos_of_pos_right _ hq
  have g2 : 0 < Nat.gcd r s := Nat.gcd_pos_of_pos_right _ hs
  have e1 : Nat.gcd n q * (n / Nat.gcd n q) = n := Nat.mul_div_cancel' (Nat.gcd_dvd_left n q)
  have e2 : Nat.gcd n q * (q / Nat.gcd n q) = q := Nat.mul_div_cancel' (Nat.gcd_dvd_right n q)
  have e3 : Nat.gcd r s * (r / Nat.gcd r s) = r := Nat.mul_div_cancel' (Nat.gcd_dvd_left r s)
  have e4 : Nat.gcd r s * (s / Nat.gcd r s) = s := Nat.mul_div_cancel' (Nat.gcd_dvd_right r s)
  have c1 : Nat.Coprime (n / Nat.gcd n q) (q / Nat.gcd n q) := Nat.coprime_div_gcd_div_gcd g1
  have c2 : Nat.Coprime (r / Nat.gcd r s) (s / Nat.gcd r s) := Nat.coprime_div_gcd_div_gcd g2
  generalize Nat.gcd n q = g at *
  generalize Nat.gcd r s = h at *
  generalize n / g = a at *
  generalize q / g = b at *
  generalize r / h = c at *
  generalize s / h = d at *
  subst e1 e2 e3 e4
  have hb : 0 < b := Nat.pos_of_mul_pos_left hq
  have hd : 0 < d := Nat.pos_of_mul_pos_left hs
  have key : g * a * (h * d) = h * c * (g * b) ↔ a * d = c * b := by
    have f1 : g * a * (h * d) = (g * h) * (a * d) := by rw [Nat.mul_mul_mul_comm]
    have f2 : h * c * (g * b) = (g * h) * (c * b) := by rw [Nat.mul_mul_mul_comm, Nat.mul_comm h g]
    rw [f1, f2]
    exact ⟨fun e => Nat.eq_of_mul_eq_mul_left (Nat.mul_pos g1 g2) e, fun e => by rw [e]⟩
  rw [key]
  constructor
  · rintro ⟨rfl, rfl⟩; rfl
  · intro e
    have d1 : a ∣ c := c1.dvd_of_dvd_mul_right (by rw [← e]; exact Nat.dvd_mul_right a d)
    have d2 : c ∣ a := c2.dvd_of_dvd_mul_right (by rw [e]; exact Nat.dvd_mul_right c b)
    have hac := Nat.dvd_antisymm d1 d2
    subst hac
    refine ⟨rfl, ?_⟩
    rcases Nat.eq_zero_or_pos a with h0 | h0
    · subst h0
      have h1 : b = 1 := by simpa [Nat.Coprime] using c1
      have h2 : d = 1 := by simpa [Nat.Coprime] using c2
      rw [h1, h2]
    · exact (Nat.eq_of_mul_eq_mul_left h0 e).symm
theorem bits_andNot_big (a b : Nat) (ha : a < 9223372036854775808) (hb : b < 4611686018427387904) : bits .andNot .i64 (a : Int) (b : Int) = ((sdiff a b : Nat) : Int) := by
  have h1 : (BitVec.ofInt 64 (a : Int)).toNat = a := by rw [BitVec.toNat_ofInt]; omega
  have h2 := ofInt_nat b hb
  have h3 : sdiff a b < 2 ^ 63 := sdiff_lt (n := 63) ha
  have h4 : (BitVec.ofInt 64 (a : Int) &&& ~~~BitVec.ofInt 64 (b : Int)).toNat = sdiff a b := by
    apply Nat.eq_of_testBit_eq; intro i
    rw [testBit_sdiff, BitVec.toNat_and, Nat.testBit_and, h1, BitVec.testBit_toNat, BitVec.getLsbD_not, ← BitVec.testBit_toNat, h2]
    by_cases hi : i < 64
    · simp [hi]
    · rw [Nat.testBit_lt_two_pow (show a < 2 ^ i from Nat.lt_of_lt_of_le ha (Nat.pow_le_pow_right (n := 2) (i := 63) (by omega) (by omega)))]; simp
  have h5 : bits .andNot .i64 (a : Int) (b : Int) = IntKind.i64.wrap ((BitVec.ofInt 64 (a : Int) &&& ~~~BitVec.ofInt 64 (b : Int)).toNat : Int) := rfl
  rw [h5, h4, IntKind.wrap_i64]; omega
def ilN (m : List Nat) (A B X : Nat) : Bool := decide (ratF m B X * card (leastN m A B) = ratF m B (leastN m A B) * card X)
/-- X a part of A -/
def ilP (a x : Int) : Bool := decide (0 < x) && decide (sdiff x.toNat a.toNat = 0)
def ilF (l : List Int) (a b x : Int) : Bool := lrOk l a b && ilP a x && ilN (toN l) a.toNat b.toNat x.toNat
theorem ilF_no1 {l : List Int} {a b x : Int} (h : lrOk l a b = false) : ilF l a b x = false := by unfold ilF; rw [h]; rfl
theorem ilF_no2 {l : List Int} {a b x : Int} (h : ilP a x = false) : ilF l a b x = false := by unfold ilF; rw [h]; simp
theorem ilF_yes {m : List Nat} {A B X : Nat} (h : lrOk (cst m) A B = true) (h2 : ilP A X = true) : ilF (cst m) A B X = ilN m A B X := by
  unfold ilF; rw [h, h2, toN_cst, Int.toNat_natCast, Int.toNat_natCast, Int.toNat_natCast]; rfl
theorem ilP_iff {A : Nat} {x : Int} : ilP (A : Int) x = true ↔ 0 < x ∧ sdiff x.toNat A = 0 := by simp [ilP]
theorem ret_b2 {a b : Bool} (h : a = b) : Ending.returned (.bool a) = .returned (.bool b) := by rw [h]
theorem full_of {m : List Nat} (hm : Ok m) {A B : Nat} (hA : A < 2 ^ prodN m) (hB : B < 2 ^ prodN m) (h1 : A ≠ 0) (h2 : B ≠ 0) : full (cst m) A B = true :=
  full_iff.2 ⟨m, A, B, hm, rfl, rfl, rfl, hA, hB, h1, h2⟩
set_option maxHeartbeats 1000000 in
theorem isLeastRatio_any (b off cap : Nat) (l : List Int) (x y z : Int) (w : World) (hl : l.length ≤ 1099511627776) (hz : z < 9223372036854775808) (hg : GrpAt w b off l) :
    Calls Try.prog 17 #[.agg #[.slice (some ⟨b, off, none⟩) l.length cap], .int .i64 x, .int .i64 y, .int .i64 z] w fun e w' => e = .returned (.bool (ilF l x y z)) ∧ Below w.heap.size w w' := by
  have hst := St.init cap 26 hg
  by_cases h : lrOk l x y = true
  · obtain ⟨hf, h10⟩ := lrOk_yes h
    have hf0 := full_iff.1 hf
    obtain ⟨m, A, B, hm, rfl, rfl, rfl, hA, hB, hA0, hB0⟩ := hf0
    have hr0 := lrF_yes h
    have hA' := Nat.lt_of_lt_of_le hA hm.pow_le
    have hB' := Nat.lt_of_lt_of_le hB hm.pow_le
    by_cases hzp : 0 < z
    · obtain ⟨X, rfl⟩ : ∃ X : Nat, z = X := ⟨z.toNat, by omega⟩
      have hbit := bits_andNot_big X A (by omega) (by omega)
      have hzX : 0 < X := by omega
      clear hz hzp
      by_cases hsd : sdiff X A = 0
      · have hP : ilP A X = true := ilP_iff.2 ⟨by omega, by simpa using hsd⟩
        have hXA : part A X := ⟨by omega, hsd⟩
        have hXle := part_le hXA
        obtain ⟨hYp, _⟩ := leastN_spec (m := m) (B := B) hA' hA0
        have hYle := part_le hYp
        have hXb : X < 2 ^ prodN m := by omega
        have hYb : leastN m A B < 2 ^ prodN m := by omega
        have f1 := full_of hm hXb hB hXA.1 hB0
        have f2 := full_of hm hYb hB hYp.1 hB0
        obtain ⟨r1, r2⟩ := ratio_yes f1
        obtain ⟨r3, r4⟩ := ratio_yes f2
        have hlow := low_iff (n := card (sumN m X B)) (r := card (sumN m (leastN m A B) B)) (part_card hA' hXA) (part_card hA' hYp)
        have hres : Hid (ilF (cst m) A B X = ((ratioA (cst m) X B == ratioA (cst m) ((leastN m A B : Nat) : Int) B) && (ratioB (cst m) X B == ratioB (cst m) ((leastN m A B : Nat) : Int) B))) := by
          unfold Hid
          rw [ilF_yes h hP, r1, r2, r3, r4, Bool.eq_iff_iff, Bool.and_eq_true, beq_iff_eq, beq_iff_eq]
          unfold ilN ratA ratB ratF
          rw [decide_eq_true_eq, ← hlow]
          omega
        have hsb : (((sdiff X A : Nat) : Int) != 0) = false := by rw [hsd]; rfl
        clear hlow r1 r2 r3 r4 f1 f2 hXb hYb hXA hYp hP hsd hA hB hA0 hB0 h10 hf
        go_enter Try.func17, Try.ntmps17
        go_wp2_with fail
        refine (leastRatio_any _ _ _ _ _ _ _ hl hst.grp).mono ?_; rintro e w1 ⟨rfl, hb1⟩; rw [h, hr0]; have hst1 := hst.step hb1; have hbox1 := hst1.box
        clear hst hb1 h hr0
        generalize leastN m A B = Y at *
        go_wp2_with fail
        refine (ratioOf_any _ _ _ _ _ _ _ hl hst1.grp).mono ?_; rintro e w2 ⟨rfl, hb2⟩; have hst2 := hst1.step hb2; have hbox2 := hst2.box
        clear hst1 hb2 hbox1
        go_wp2_with fail
        refine (ratioOf_any _ _ _ _ _ _ _ hl hst2.grp).mono ?_; rintro e w3 ⟨rfl, hb3⟩; have hst3 := hst2.step hb3
        clear hst2 hb3 hbox2
        generalize ratioA (cst m) X B = p at *
        generalize ratioB (cst m) X B = q at *
        generalize ratioA (cst m) (Y : Int) B = r at *
        generalize ratioB (cst m) (Y : Int) B = s at *
        by_cases e1 : p = r
        · have e1b : (p == r) = true := by rw [beq_iff_eq]; exact e1
          clear e1
          go_wp2
          go_ret
          exact ⟨ret_b2 (by rw [hres.out, e1b, Bool.true_and]), hst3.below⟩
        · have e1b : (p == r) = false := by rw [beq_eq_false_iff_ne]; exact e1
          clear e1
          go_wp2
          go_ret
          exact ⟨ret_b2 (by rw [hres.out, e1b, Bool.false_and]), hst3.below⟩
      · have hP : ilP A X = false := by rw [Bool.eq_false_iff]; intro hc; exact hsd (by simpa using (ilP_iff.1 hc).2)
        have hres := hid (ilF_no2 (l := cst m) (b := B) hP)
        have hsb : (((sdiff X A : Nat) : Int) != 0) = true := by rw [bne_iff_ne]; omega
        clear hP hsd hA hB hA0 hB0 h10 hf
        go_enter Try.func17, Try.ntmps17
        go_wp2_with fail
        refine (leastRatio_any _ _ _ _ _ _ _ hl hst.grp).mono ?_; rintro e w1 ⟨rfl, hb1⟩; rw [h]; have hst1 := hst.step hb1
        go_wp2
        go_ret
        exact ⟨ret_b2 (by rw [hres.out]), hst1.below⟩
    · have hP : ilP A z = false := by rw [Bool.eq_false_iff]; intro hc; exact hzp (ilP_iff.1 hc).1
      have hres := hid (ilF_no2 (l := cst m) (b := B) hP)
      clear hP hA hB hA0 hB0 h10 hf
      go_enter Try.func17, Try.ntmps17
      go_wp2_with fail
      refine (leastRatio_any _ _ _ _ _ _ _ hl hst.grp).mono ?_; rintro e w1 ⟨rfl, hb1⟩; rw [h]; have hst1 := hst.step hb1
      go_wp2
      go_ret
      exact ⟨ret_b2 (by rw [hres.out]), hst1.below⟩
  · have hn : lrOk l x y = false := by simpa using h
    have hres := hid (ilF_no1 (x := z) hn)
    clear h
    go_enter Try.func17, Try.ntmps17
    go_wp2_with fail
    refine (leastRatio_any _ _ _ _ _ _ _ hl hst.grp).mono ?_; rintro e w1 ⟨rfl, hb1⟩; rw [hn]; have hst1 := hst.step hb1
    go_wp2
    go_ret
    exact ⟨ret_b2 (by rw [hres.out]), hst1.below⟩
set_option maxHeartbeats 1000000 in
theorem sIsLeastRatio_any (b off cap : Nat) (l : List Int) (x y z : Int) (w : World) (hl : l.length ≤ 1099511627776) (hg : GrpAt w b off l) :
    Calls Try.prog 27 #[.agg #[.slice (some ⟨b, off, none⟩) l.length cap], .int .i64 x, .int .i64 y, .int .i64 z] w fun e w' => e = .returned (.bool (ilF l x y z)) ∧ Below w.heap.size w w' := by
  have hst := St.init cap 26 hg
  by_cases h : lrOk l x y = true
  · obtain ⟨hf, h10⟩ := lrOk_yes h
    have hf0 := full_iff.1 hf
    obtain ⟨m, A, B, hm, rfl, rfl, rfl, hA, hB, hA0, hB0⟩ := hf0
    have hr0 := lrF_yes h
    have hA' := Nat.lt_of_lt_of_le hA hm.pow_le
    have hB' := Nat.lt_of_lt_of_le hB hm.pow_le
    by_cases hs : isSetB (cst m) z = true
    · obtain ⟨X, rfl, hX⟩ := isSetB_of hm hs
      have hX' := Nat.lt_of_lt_of_le hX hm.pow_le
      have hbit := bits_and_nat X A (by omega) (by omega)
      by_cases hX0 : X = 0
      · subst hX0
        have hP : ilP A ((0 : Nat) : Int) = false := by simp [ilP]
        have hres := hid (ilF_no2 (l := cst m) (b := B) hP)
        clear hP hA hB hA0 hB0 h10 hf
        go_enter Try.func27, Try.ntmps27
        go_wp2_with fail
        refine (sLeastRatio_any _ _ _ _ _ _ _ hl hst.grp).mono ?_; rintro e w1 ⟨rfl, hb1⟩; rw [h]; have hst1 := hst.step hb1; have hbox1 := hst1.box
        clear hst hb1
        go_wp2_with (first | (go_at_call 64; refine (sIsSet_any _ _ _ _ _ _ hl (St.grp (by assumption))).mono ?_; rintro e wN ⟨rfl, hbN⟩; have hstN := St.step (by assumption) hbN; have hboxN := hstN.box; clear hbN))
        go_ret
        exact ⟨ret_b2 (by rw [hres.out]), St.below (by assumption)⟩
      · have hXz : ((X : Int) == 0) = false := by rw [beq_eq_false_iff_ne]; omega
        by_cases hsd : sdiff X A = 0
        · have hP : ilP A X = true := ilP_iff.2 ⟨by omega, by simpa using hsd⟩
          have hXA : part A X := ⟨by omega, hsd⟩
          obtain ⟨hYp, _⟩ := leastN_spec (m := m) (B := B) hA' hA0
          have hYle := part_le hYp
          have hres : Hid (ilF (cst m) A B X = (((card (sumN m X B) : Nat) : Int) * ((card (leastN m A B) : Nat) : Int) == ((card (sumN m (leastN m A B) B) : Nat) : Int) * ((card X : Nat) : Int))) := by
            unfold Hid
            rw [ilF_yes h hP, Bool.eq_iff_iff, beq_iff_eq, ← Int.natCast_mul, ← Int.natCast_mul]
            unfold ilN ratF
            rw [decide_eq_true_eq]; omega
          have hpn := @part_ne X A
          rw [hsd] at hpn
          have hpb : (((X &&& A : Nat) : Int) != (X : Int)) = false := hpn
          have hY' : leastN m A B < 16777216 := by omega
          have c1 := card_le X
          have c2 := card_le (leastN m A B)
          have c3 := card_le (sumN m X B)
          have c4 := card_le (sumN m (leastN m A B) B)
          have c5 := sumN_lt hm X B
          have c6 := sumN_lt hm (leastN m A B) B
          have hmul1 := mul24 c3 c2
          have hmul2 := mul24 c4 c1
          have hw1 : IntKind.i64.wrap (((card (sumN m X B) : Nat) : Int) * ((card (leastN m A B) : Nat) : Int)) = ((card (sumN m X B) : Nat) : Int) * ((card (leastN m A B) : Nat) : Int) := by rw [IntWalk.i64_left, IntWalk.wrap64_in _ (by omega)]
          have hw2 : IntKind.i64.wrap (((card (sumN m (leastN m A B) B) : Nat) : Int) * ((card X : Nat) : Int)) = ((card (sumN m (leastN m A B) B) : Nat) : Int) * ((card X : Nat) : Int) := by rw [IntWalk.i64_left, IntWalk.wrap64_in _ (by omega)]
          clear hXA hYp hP hA hB hA0 hB0 h10 hf hpn hX hsd
          go_enter Try.func27, Try.ntmps27
          go_wp2_with fail
          refine (sLeastRatio_any _ _ _ _ _ _ _ hl hst.grp).mono ?_; rintro e w1 ⟨rfl, hb1⟩; rw [h, hr0]; have hst1 := hst.step hb1; have hbox1 := hst1.box
          clear hst hb1 hr0
          generalize leastN m A B = Y at *
          go_wp2_with (first | (go_at_call 64; refine (sIsSet_any _ _ _ _ _ _ hl (St.grp (by assumption))).mono ?_; rintro e wN ⟨rfl, hbN⟩; have hstN := St.step (by assumption) hbN; have hboxN := hstN.box; clear hbN))
          have hst3 : St w b off cap (cst m) wN := by assumption
          have hst4 := hst3.drew
          clear hst1 hst3 hbox1 hboxN
          go_region_held3 (fun w' => w'.cell? ⟨w.heap.size, 0, none⟩ = some (.slice (some ⟨b, off, none⟩) (cst m).length cap) ∧ St w b off cap (cst m) w') (first | exact ⟨hst4.box, hst4⟩ | exact St.keep (by assumption) hb1 | assumption) (first | (go_at_call 117; refine (l4Sum_any _ _ _ _ _ _ _ hm (by omega) (by omega) (St.grpOf (by assumption))).mono ?_; rintro e w1 ⟨rfl, hb1⟩) | (go_at_call 116; refine (l3Bits_any _ _ (by omega)).mono ?_; rintro e w1 ⟨rfl, rfl⟩))
          have hst5 : St w b off cap (cst m) w1 := And.right (by assumption)
          go_wp2
          go_ret
          exact ⟨ret_b2 (by rw [hres.out]), hst5.below⟩
        · have hP : ilP A X = false := by rw [Bool.eq_false_iff]; intro hc; exact hsd (by simpa using (ilP_iff.1 hc).2)
          have hres := hid (ilF_no2 (l := cst m) (b := B) hP)
          have hpb : (((X &&& A : Nat) : Int) != (X : Int)) = true := by rw [part_ne, Bool.not_eq_true', beq_eq_false_iff_ne]; omega
          clear hP hsd hA hB hA0 hB0 h10 hf
          go_enter Try.func27, Try.ntmps27
          go_wp2_with fail
          refine (sLeastRatio_any _ _ _ _ _ _ _ hl hst.grp).mono ?_; rintro e w1 ⟨rfl, hb1⟩; rw [h]; have hst1 := hst.step hb1; have hbox1 := hst1.box
          clear hst hb1
          go_wp2_with (first | (go_at_call 64; refine (sIsSet_any _ _ _ _ _ _ hl (St.grp (by assumption))).mono ?_; rintro e wN ⟨rfl, hbN⟩; have hstN := St.step (by assumption) hbN; have hboxN := hstN.box; clear hbN))
          go_ret
          exact ⟨ret_b2 (by rw [hres.out]), St.below (by assumption)⟩
    · have hs' : isSetB (cst m) z = false := by simpa using hs
      have hP : ilP A z = false := by
        rw [Bool.eq_false_iff]; intro hc
        have h1 := ilP_iff.1 hc
        have h2 := part_le (A := A) (x := z.toNat) ⟨by omega, h1.2⟩
        refine hs (isSetB_iff.2 ⟨m, z.toNat, hm, rfl, by omega, by omega⟩)
      have hres := hid (ilF_no2 (l := cst m) (b := B) hP)
      clear hP hs hA hB hA0 hB0 h10 hf
      go_enter Try.func27, Try.ntmps27
      go_wp2_with fail
      refine (sLeastRatio_any _ _ _ _ _ _ _ hl hst.grp).mono ?_; rintro e w1 ⟨rfl, hb1⟩; rw [h]; have hst1 := hst.step hb1; have hbox1 := hst1.box
      clear hst hb1
      go_wp2_with (first | (go_at_call 64; refine (sIsSet_any _ _ _ _ _ _ hl (St.grp (by assumption))).mono ?_; rintro e wN ⟨rfl, hbN⟩; have hstN := St.step (by assumption) hbN; have hboxN := hstN.box; clear hbN))
      go_ret
      exact ⟨ret_b2 (by rw [hres.out]), St.below (by assumption)⟩
  · have hn : lrOk l x y = false := by simpa using h
    have hres := hid (ilF_no1 (x := z) hn)
    clear h
    go_enter Try.func27, Try.ntmps27
    go_wp2_with fail
    refine (sLeastRatio_any _ _ _ _ _ _ _ hl hst.grp).mono ?_; rintro e w1 ⟨rfl, hb1⟩; rw [hn]; have hst1 := hst.step hb1
    go_wp2
    go_ret
    exact ⟨ret_b2 (by rw [hres.out]), hst1.below⟩
end Go.Proofs.Ytpflnmcecnbilaa
