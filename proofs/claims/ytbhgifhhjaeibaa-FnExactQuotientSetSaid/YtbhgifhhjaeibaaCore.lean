/-
  Contracts: the cosets within a set; how many elements of a set each coset has.
-/
import Derived.Test.YtbhgifhhjaeibaaCoset
import Derived.Test.YtbhgifhhjaeibaaBits
import Derived.BigQuiet
import Derived.Deep.QuietTactic
namespace Go.Proofs.Ytbhgifhhjaeibaa
open Go.RowKit

def coreTo (L : List Nat) (A : Nat) : Nat → Nat
  | 0 => 0
  | k + 1 => if sdiff (L.getD k 0) A = 0 then coreTo L A k ||| L.getD k 0 else coreTo L A k
theorem coreTo_lt {L : List Nat} (A : Nat) (h : ∀ c ∈ L, c < 16777216) : ∀ k, k ≤ L.length → coreTo L A k < 16777216
  | 0, _ => by simp [coreTo]
  | k + 1, hk => by
    have ih := coreTo_lt A h k (by omega)
    rw [coreTo]; split
    · exact or_lt24 ih (h _ (getD_mem L 0 k (by omega)))
    · exact ih
def coOk (l : List Int) (h a : Int) : Bool := subB l h && isSetB l a
theorem coOk_yes {l : List Int} {h a : Int} (e : coOk l h a = true) : subB l h = true ∧ isSetB l a = true := by simpa [coOk] using e
theorem coOk_no {l : List Int} {h a : Int} (e : coOk l h a = false) : subB l h = false ∨ (subB l h = true ∧ isSetB l a = false) := by
  unfold coOk at e
  cases h1 : subB l h
  · exact .inl rfl
  · exact .inr ⟨rfl, by simpa [h1] using e⟩
def coreF (l : List Int) (h a : Int) : Int := if coOk l h a = true then (coreTo (cosN (toN l) h.toNat) a.toNat (cosN (toN l) h.toNat).length : Nat) else -1
theorem coreF_yes {m : List Nat} {H A : Nat} (e : coOk (cst m) H A = true) : coreF (cst m) H A = (coreTo (cosN m H) A (cosN m H).length : Nat) := by
  unfold coreF; rw [if_pos e, toN_cst, Int.toNat_natCast, Int.toNat_natCast]
theorem coreF_no {l : List Int} {h a : Int} (e : coOk l h a = false) : coreF l h a = -1 := by unfold coreF; rw [if_neg (by simp [e])]
theorem coOk_iff {l : List Int} {h a : Int} (e : coOk l h a = true) : ∃ m H A, Ok m ∧ l = cst m ∧ h = ((H : Nat) : Int) ∧ a = ((A : Nat) : Int) ∧ H < 16777216 ∧ A < 16777216 := by
  obtain ⟨h1, h2⟩ := coOk_yes e
  obtain ⟨m, H, hm, rfl, rfl, hH⟩ := isSetB_iff.1 (subB_set h1)
  obtain ⟨A, rfl, hA⟩ := isSetB_of hm h2
  exact ⟨m, H, A, hm, rfl, rfl, rfl, Nat.lt_of_lt_of_le hH hm.pow_le, Nat.lt_of_lt_of_le hA hm.pow_le⟩
theorem cosN_lt {m : List Nat} (hm : Ok m) (H : Nat) : ∀ c ∈ cosN m H, c < 16777216 := (cosP_lt hm H _).2
theorem cosN_len {m : List Nat} (hm : Ok m) (H : Nat) : (cosN m H).length ≤ 24 := Nat.le_trans (cosP_len m H _) hm.ord
theorem sd_ne {C A : Nat} : (((C &&& A : Nat) : Int) == (C : Int)) = (((sdiff C A : Nat) : Int) == 0) := by
  have h := @part_and C A
  rw [Bool.eq_iff_iff, beq_iff_eq, beq_iff_eq]
  constructor
  · intro h1; rw [h.2 (by omega)]; rfl
  · intro h1; rw [h.1 (by omega)]
set_option maxHeartbeats 1000000 in
theorem corePart_any (b off cap : Nat) (l : List Int) (h a : Int) (w : World) (hl : l.length ≤ 1099511627776) (hg : GrpAt w b off l) :
    Calls Try.prog 14 #[.agg #[.slice (some ⟨b, off, none⟩) l.length cap], .int .i64 h, .int .i64 a] w fun e w' => e = .returned (.int .i64 (coreF l h a)) ∧ Below w.heap.size w w' := by
  have hst := St.init cap 27 hg
  by_cases hs : coOk l h a = true
  · obtain ⟨s1, s2⟩ := coOk_yes hs
    have h3 := coOk_iff hs
    obtain ⟨m, H, A, hm, rfl, rfl, rfl, hH, hA⟩ := h3
    have hr := hid (coreF_yes hs)
    have hcf := hid (cosF_yes s1)
    have hc24 := hid (cosN_lt hm H)
    have hl24 := cosN_len hm H
    have hlc := hid (cst_length (cosN m H))
    have hcb : Hid (∀ k, k ≤ (cosN m H).length → coreTo (cosN m H) A k < 16777216) := coreTo_lt A (cosN_lt hm H)
    clear hs
    go_enter Try.func14, Try.ntmps14
    go_wp2_with fail
    refine (cosetsOf_any _ _ _ _ _ _ hl hst.grp).mono ?_; rintro e w1 ⟨g, gc, rfl, hmade⟩; rw [hcf.out] at hmade ⊢; rw [s1]
    have hstl : StL w b off cap (cst m) g (cst (cosN m H)) w1 := ⟨hst.step hmade.below, hmade.grp⟩
    have hbox1 := hstl.st.box
    clear hmade hst hcf
    generalize cosN m H = L at *
    go_wp2_with fail
    refine (isSet_any _ _ _ _ _ _ hl hstl.st.grp).mono ?_; rintro e w2 ⟨rfl, hb2⟩; rw [s2]; have hst2 := hstl.step hb2
    clear hstl hb2 hbox1
    go_wp2
    go_loop [9, 28] (fun o i => ∃ k : Nat, i = .int .i64 k ∧ k ≤ (cst L).length ∧ o = .int .i64 (coreTo L A k : Nat)) (fun _ i => (cst L).length - (intOf i).toNat)
    case atStart => exact ⟨0, rfl, by omega, rfl⟩
    case round =>
      obtain ⟨k, rfl, hk, rfl⟩ := hrel
      by_cases hlt : k < (cst L).length
      · have hck := hst2.lst.nat0 k hlt
        have hltL : k < L.length := by have := hlc.out; omega
        have hC := hc24.out _ (getD_mem L 0 k hltL)
        have hT := hcb.out k (by omega)
        obtain ⟨C, hCe⟩ : ∃ C, Hid (L.getD k 0 = C) := ⟨_, rfl⟩
        rw [hCe.out] at hC hck
        have hsd := bits_andNot_nat C A (by omega) (by omega)
        have hor := bits_or_nat (coreTo L A k) C (by omega) (by omega)
        by_cases he : sdiff C A = 0
        · have hb : (((sdiff C A : Nat) : Int) == 0) = true := by rw [he]; rfl
          have hnx : Hid (coreTo L A (k + 1) = coreTo L A k ||| C) := by unfold Hid; rw [coreTo, hCe.out, if_pos he]
          clear he
          generalize coreTo L A k = T at *
          go_wp2
          go_round
          case rel => exact ⟨k + 1, by go_num, by omega, by rw [hnx.out]⟩
          case measure => simp [intOf]; omega
        · have hb : (((sdiff C A : Nat) : Int) == 0) = false := by rw [beq_eq_false_iff_ne]; omega
          have hnx : Hid (coreTo L A (k + 1) = coreTo L A k) := by unfold Hid; rw [coreTo, hCe.out, if_neg he]
          clear he
          generalize coreTo L A k = T at *
          go_wp2
          go_round
          case rel => exact ⟨k + 1, by go_num, by omega, by rw [hnx.out]⟩
          case measure => simp [intOf]; omega
      · have hend : Hid (coreTo L A k = coreTo L A L.length) := by rw [show k = L.length from by have := hlc.out; omega]; rfl
        generalize coreTo L A k = T at *
        go_wp2
        go_ret
        exact ⟨ret_i (by rw [hr.out, hend.out]), hst2.st.below⟩
  · have hs' : coOk l h a = false := by simpa using hs
    have hr := hid (coreF_no hs')
    clear hs
    rcases coOk_no hs' with h1 | ⟨h1, h2⟩
    · go_enter Try.func14, Try.ntmps14
      go_wp2_with fail
      refine (cosetsOf_any _ _ _ _ _ _ hl hst.grp).mono ?_; rintro e w1 ⟨g, gc, rfl, hmade⟩; rw [h1]; have hst1 := hst.step hmade.below
      go_wp2
      go_ret
      exact ⟨ret_i hr.out.symm, hst1.below⟩
    · go_enter Try.func14, Try.ntmps14
      go_wp2_with fail
      refine (cosetsOf_any _ _ _ _ _ _ hl hst.grp).mono ?_; rintro e w1 ⟨g, gc, rfl, hmade⟩; rw [h1]; have hst1 := hst.step hmade.below; have hbox1 := hst1.box
      go_wp2_with fail
      refine (isSet_any _ _ _ _ _ _ hl hst1.grp).mono ?_; rintro e w2 ⟨rfl, hb2⟩; rw [h2]; have hst2 := hst1.step hb2
      go_wp2
      go_ret
      exact ⟨ret_i hr.out.symm, hst2.below⟩
set_option maxHeartbeats 1000000 in
theorem sCorePart_any (b off cap : Nat) (l : List Int) (h a : Int) (w : World) (hl : l.length ≤ 1099511627776) (hg : GrpAt w b off l) :
    Calls Try.prog 12 #[.agg #[.slice (some ⟨b, off, none⟩) l.length cap], .int .i64 h, .int .i64 a] w fun e w' => e = .returned (.int .i64 (coreF l h a)) ∧ Below w.heap.size w w' := by
  have hst := St.init cap 27 hg
  by_cases hs : coOk l h a = true
  · obtain ⟨s1, s2⟩ := coOk_yes hs
    have h3 := coOk_iff hs
    obtain ⟨m, H, A, hm, rfl, rfl, rfl, hH, hA⟩ := h3
    have hr := hid (coreF_yes hs)
    have hcf := hid (cosF_yes s1)
    have hc24 := hid (cosN_lt hm H)
    have hl24 := cosN_len hm H
    have hlc := hid (cst_length (cosN m H))
    have hcb : Hid (∀ k, k ≤ (cosN m H).length → coreTo (cosN m H) A k < 16777216) := coreTo_lt A (cosN_lt hm H)
    clear hs
    go_enter Try.func12, Try.ntmps12
    go_wp2_with fail
    refine (sCosetsOf_any _ _ _ _ _ _ hl hst.grp).mono ?_; rintro e w1 ⟨g, gc, rfl, hmade⟩; rw [hcf.out] at hmade ⊢; rw [s1]
    have hstl : StL w b off cap (cst m) g (cst (cosN m H)) w1 := ⟨hst.step hmade.below, hmade.grp⟩
    have hbox1 := hstl.st.box
    clear hmade hst hcf
    generalize cosN m H = L at *
    go_wp2_with fail
    refine (sIsSet_any _ _ _ _ _ _ hl hstl.st.grp).mono ?_; rintro e w2 ⟨rfl, hb2⟩; rw [s2]; have hst2 := hstl.step hb2
    clear hstl hb2 hbox1
    go_wp2
    go_loopw [9, 10] (fun o i wr => ∃ k : Nat, i = .int .i64 k ∧ k ≤ (cst L).length ∧ o = .int .i64 (coreTo L A k : Nat) ∧ StL w b off cap (cst m) g (cst L) wr) (fun _ i _ => (cst L).length - (intOf i).toNat)
    case atStart => exact ⟨0, rfl, by omega, rfl, hst2⟩
    case round =>
      clear hst2
      rename_i wr
      obtain ⟨k, rfl, hk, rfl, hstr⟩ := hrel
      by_cases hlt : k < (cst L).length
      · have hck := hstr.lst.nat0 k hlt
        have hltL : k < L.length := by have := hlc.out; omega
        have hC := hc24.out _ (getD_mem L 0 k hltL)
        have hT := hcb.out k (by omega)
        have hi1 : (0 : Int) ≤ (k : Int) := by omega
        have hi2 : (k : Int) < ((cst L).length : Int) := by omega
        obtain ⟨C, hCe⟩ : ∃ C, Hid (L.getD k 0 = C) := ⟨_, rfl⟩
        rw [hCe.out] at hC hck
        have hsd := bits_and_nat C A (by omega) (by omega)
        have hor := bits_or_nat (coreTo L A k) C (by omega) (by omega)
        have hsn := @sd_ne C A
        by_cases he : sdiff C A = 0
        · have hb : (((C &&& A : Nat) : Int) == (C : Int)) = true := by rw [hsn, he]; rfl
          have hnx : Hid (coreTo L A (k + 1) = coreTo L A k ||| C) := by unfold Hid; rw [coreTo, hCe.out, if_pos he]
          clear he hsn
          generalize coreTo L A k = T at *
          go_wp2
          go_quiet (fail)
          go_wp2
          go_roundw
          case rel => exact ⟨k + 1, by go_num, by omega, by rw [hnx.out], hstr.step ⟨rfl, rfl, rfl, Nat.le_refl _, fun _ _ => rfl⟩⟩
          case measure => simp [intOf]; omega
        · have hb : (((C &&& A : Nat) : Int) == (C : Int)) = false := by rw [hsn, beq_eq_false_iff_ne]; omega
          have hnx : Hid (coreTo L A (k + 1) = coreTo L A k) := by unfold Hid; rw [coreTo, hCe.out, if_neg he]
          clear he hsn
          generalize coreTo L A k = T at *
          go_wp2
          go_quiet (fail)
          go_wp2
          go_roundw
          case rel => exact ⟨k + 1, by go_num, by omega, by rw [hnx.out], hstr.step ⟨rfl, rfl, rfl, Nat.le_refl _, fun _ _ => rfl⟩⟩
          case measure => simp [intOf]; omega
      · have hend : Hid (coreTo L A k = coreTo L A L.length) := by rw [show k = L.length from by have := hlc.out; omega]; rfl
        generalize coreTo L A k = T at *
        go_wp2
        go_ret
        exact ⟨ret_i (by rw [hr.out, hend.out]), hstr.st.below⟩
  · have hs' : coOk l h a = false := by simpa using hs
    have hr := hid (coreF_no hs')
    clear hs
    rcases coOk_no hs' with h1 | ⟨h1, h2⟩
    · go_enter Try.func12, Try.ntmps12
      go_wp2_with fail
      refine (sCosetsOf_any _ _ _ _ _ _ hl hst.grp).mono ?_; rintro e w1 ⟨g, gc, rfl, hmade⟩; rw [h1]; have hst1 := hst.step hmade.below
      go_wp2
      go_ret
      exact ⟨ret_i hr.out.symm, hst1.below⟩
    · go_enter Try.func12, Try.ntmps12
      go_wp2_with fail
      refine (sCosetsOf_any _ _ _ _ _ _ hl hst.grp).mono ?_; rintro e w1 ⟨g, gc, rfl, hmade⟩; rw [h1]; have hst1 := hst.step hmade.below; have hbox1 := hst1.box
      go_wp2_with fail
      refine (sIsSet_any _ _ _ _ _ _ hl hst1.grp).mono ?_; rintro e w2 ⟨rfl, hb2⟩; rw [h2]; have hst2 := hst1.step hb2
      go_wp2
      go_ret
      exact ⟨ret_i hr.out.symm, hst2.below⟩
end Go.Proofs.Ytbhgifhhjaeibaa
