/-
  Contracts: how many elements of a set each coset has.
-/
import Derived.Test.YtbhgifhhjaeibaaCore
import Derived.Test.YtbhgifhhjaeibaaSteps
import Derived.Maps.AppendAt
namespace Go.Proofs.Ytbhgifhhjaeibaa
open Go.RowKit

def quTo (L : List Nat) (A k : Nat) : List Nat := (L.take k).map fun c => card (c &&& A)
theorem quTo_succ {L : List Nat} {A k : Nat} (h : k < L.length) : quTo L A (k + 1) = quTo L A k ++ [card (L.getD k 0 &&& A)] := by
  unfold quTo; rw [take_snoc L 0 k h, List.map_append]; rfl
theorem quTo_len (L : List Nat) (A k : Nat) : (quTo L A k).length ≤ L.length := by simp [quTo]; omega
def quF (l : List Int) (h a : Int) : List Int := if coOk l h a = true then cst (quTo (cosN (toN l) h.toNat) a.toNat (cosN (toN l) h.toNat).length) else []
theorem quF_yes {m : List Nat} {H A : Nat} (e : coOk (cst m) H A = true) : quF (cst m) H A = cst (quTo (cosN m H) A (cosN m H).length) := by
  unfold quF; rw [if_pos e, toN_cst, Int.toNat_natCast, Int.toNat_natCast]
theorem quF_no {l : List Int} {h a : Int} (e : coOk l h a = false) : quF l h a = [] := by unfold quF; rw [if_neg (by simp [e])]
theorem quF_len (l : List Int) (h a : Int) : (quF l h a).length ≤ 1048576 := by
  by_cases e : coOk l h a = true
  · have h3 := coOk_iff e
    obtain ⟨m, H, A, hm, rfl, rfl, rfl, _, _⟩ := h3
    rw [quF_yes e, cst_length]
    have := quTo_len (cosN m H) A (cosN m H).length
    have := cosN_len hm H
    omega
  · rw [quF_no (by simpa using e)]; simp
set_option maxHeartbeats 1000000 in
theorem quotientSet_any (b off cap : Nat) (l : List Int) (h a : Int) (w : World) (hl : l.length ≤ 1099511627776) (hg : GrpAt w b off l) :
    Calls Try.prog 17 #[.agg #[.slice (some ⟨b, off, none⟩) l.length cap], .int .i64 h, .int .i64 a] w (RetIB w (quF l h a) (coOk l h a)) := by
  obtain ⟨i0, hi, hz0, hz1, hz2⟩ := info_parts info_int
  have hst := (St.init cap 27 hg).step ((Below.refl _ _).alloc (Nat.le_refl _) (.cells #[] 3))
  have hgrw := GrowB.start (w := w) (w0 := w.alloc (.cells #[.slice (some ⟨b, off, none⟩) l.length cap] 27)) ((Below.refl _ _).alloc (Nat.le_refl _) _) (by simp) (w.heap.size + 1) (by simp)
  have hbw := hg.blt
  clear hg
  by_cases hs : coOk l h a = true
  · obtain ⟨s1, s2⟩ := coOk_yes hs
    have h3 := coOk_iff hs
    obtain ⟨m, H, A, hm, rfl, rfl, rfl, hH, hA⟩ := h3
    have hr := hid (quF_yes hs)
    have hk := hid hs
    have hcf := hid (cosF_yes s1)
    have hc24 := hid (cosN_lt hm H)
    have hl24 := cosN_len hm H
    have hlc := hid (cst_length (cosN m H))
    clear hs
    go_enter Try.func17, Try.ntmps17
    go_wp2_with fail
    refine (cosetsOf_any _ _ _ _ _ _ hl hst.grp).mono ?_; rintro e w1 ⟨g, gc, rfl, hmade⟩; rw [hcf.out] at hmade ⊢; rw [s1]
    have hst2 := hst.step hmade.below
    have hgr2 := hgrw.step hmade.below
    have hne2 : (Value.slice (some ⟨w.heap.size + 1, 0, none⟩) 0 0).ownBlock ≠ some g := fun e => by have h1 := (hgrw.own.lt _ e).2; have h2 := hmade.base; omega
    have hl2 := hmade.grp
    have hbox2 := hst2.box
    clear hst hgrw hmade
    clear hcf
    generalize cosN m H = L at *
    go_wp2_with fail
    refine (isSet_any _ _ _ _ _ _ hl hst2.grp).mono ?_; rintro e w2 ⟨rfl, hb2⟩; rw [s2]
    have hG : StG w b off cap (cst m) g (cst L) (cst (quTo L A 0)) _ w2 := ⟨hst2.step hb2, hl2.below hb2, hgr2.step hb2, hne2⟩
    clear hst2 hl2 hgr2 hne2 hb2 hbox2
    go_wp2
    go_loopw [8, 31] (fun o i wr => ∃ k : Nat, i = .int .i64 k ∧ k ≤ (cst L).length ∧ StG w b off cap (cst m) g (cst L) (cst (quTo L A k)) o wr) (fun _ i _ => (cst L).length - (intOf i).toNat)
    case atStart => exact ⟨0, rfl, by omega, hG⟩
    case round =>
      clear hG
      rename_i wr
      obtain ⟨k, rfl, hk1, hGr⟩ := hrel
      by_cases hlt : k < (cst L).length
      · have hck := hGr.lst.nat0 k hlt
        have hltL : k < L.length := by have := hlc.out; omega
        have hC := hc24.out _ (getD_mem L 0 k hltL)
        have hsn : Hid (cst (quTo L A (k + 1)) = cst (quTo L A k) ++ [((card (L.getD k 0 &&& A) : Nat) : Int)]) := by unfold Hid; rw [quTo_succ hltL, cst_snoc]
        have hlen : (cst (quTo L A k)).length ≤ 24 := by rw [cst_length]; have := quTo_len L A k; omega
        obtain ⟨C, hCe⟩ : ∃ C, Hid (L.getD k 0 = C) := ⟨_, rfl⟩
        rw [hCe.out] at hC hck hsn
        have hsd := bits_and_nat C A (by omega) (by omega)
        have hCA : C &&& A < 16777216 := nat_and_lt hC
        generalize quTo L A k = G at *
        go_wp2_with fail
        refine (bits_any _ _ hCA).mono ?_; rintro e w4 ⟨rfl, rfl⟩
        have hown := hGr.gr.own
        generalize card (C &&& A) = d at *
        go_wp2_with (at_builtin; refine wpList_append_own_at _ rfl _ _ 22 rfl (w.heap.size + 1) 3 i0 (.int .i64 0) 1 8 Try.underlying22 hi hz0 hz1 hz2 rfl (by decide) _ _ _ rfl (hown.alloc _) ⟨wr.heap.size, 0, none⟩ 1 1 [.int .i64 d] rfl rfl ?c1 ?c2 ?c3 ?c4 ?c5 ?_)
        case c1 => exact cell_one_new _ _ _
        case c2 => intro u hu; simp at hu; subst hu; rfl
        case c3 => simp only [maxLen]; omega
        case c4 => omega
        case c5 => have := hGr.st.size; simp; omega
        intro v' w6 hown' hgrow hnil hat
        have hp := hid (hGr.push hbw hown' hgrow hnil hat)
        clear hown hown' hgrow hnil hat hGr
        go_wp2
        go_roundw
        case rel => exact ⟨k + 1, by go_num, by omega, by rw [hsn.out]; exact hp.out⟩
        case measure => simp [intOf]; omega
      · have hend : Hid (cst (quTo L A k) = quF (cst m) H A) := by unfold Hid; rw [hr.out, show k = L.length from by have := hlc.out; omega]
        have hgr := hGr.gr
        rw [hend.out] at hgr
        go_wp2
        go_ret2
        rw [hk.out]
        exact hgr.retB true
  · have hs' : coOk l h a = false := by simpa using hs
    have hr := hid (quF_no hs')
    have hk := hid hs'
    clear hs
    rcases coOk_no hs' with h1 | ⟨h1, h2⟩
    · clear hs'
      go_enter Try.func17, Try.ntmps17
      go_wp2_with fail
      refine (cosetsOf_any _ _ _ _ _ _ hl hst.grp).mono ?_; rintro e w1 ⟨g, gc, rfl, hmade⟩; rw [h1]
      have hst2 := hst.step hmade.below
      have hgr2 := hgrw.step hmade.below
      have hne2 : (Value.slice (some ⟨w.heap.size + 1, 0, none⟩) 0 0).ownBlock ≠ some g := fun e => by have h1 := (hgrw.own.lt _ e).2; have h2 := hmade.base; omega
      have hl2 := hmade.grp
      have hbox2 := hst2.box
      clear hst hgrw hmade
      go_wp2
      go_ret2
      rw [hr.out, hk.out]
      exact hgr2.retB false
    · clear hs'
      go_enter Try.func17, Try.ntmps17
      go_wp2_with fail
      refine (cosetsOf_any _ _ _ _ _ _ hl hst.grp).mono ?_; rintro e w1 ⟨g, gc, rfl, hmade⟩; rw [h1]
      have hst2 := hst.step hmade.below
      have hgr2 := hgrw.step hmade.below
      have hne2 : (Value.slice (some ⟨w.heap.size + 1, 0, none⟩) 0 0).ownBlock ≠ some g := fun e => by have h1 := (hgrw.own.lt _ e).2; have h2 := hmade.base; omega
      have hl2 := hmade.grp
      have hbox2 := hst2.box
      clear hst hgrw hmade
      go_wp2_with fail
      refine (isSet_any _ _ _ _ _ _ hl hst2.grp).mono ?_; rintro e w2 ⟨rfl, hb2⟩; rw [h2]
      have hgr3 := hgr2.step hb2
      go_wp2
      go_ret2
      rw [hr.out, hk.out]
      exact hgr3.retB false
set_option maxHeartbeats 1000000 in
theorem sQuotientSet_any (b off cap : Nat) (l : List Int) (h a : Int) (w : World) (hl : l.length ≤ 1099511627776) (hg : GrpAt w b off l) :
    Calls Try.prog 16 #[.agg #[.slice (some ⟨b, off, none⟩) l.length cap], .int .i64 h, .int .i64 a] w (RetIB w (quF l h a) (coOk l h a)) := by
  obtain ⟨i0, hi, hz0, hz1, hz2⟩ := info_parts info_int
  have hst := St.init cap 27 hg
  have hbw := hg.blt
  clear hg
  by_cases hs : coOk l h a = true
  · obtain ⟨s1, s2⟩ := coOk_yes hs
    have h3 := coOk_iff hs
    obtain ⟨m, H, A, hm, rfl, rfl, rfl, hH, hA⟩ := h3
    have hr := hid (quF_yes hs)
    have hk := hid hs
    have hcf := hid (cosF_yes s1)
    have hc24 := hid (cosN_lt hm H)
    have hl24 := cosN_len hm H
    have hlc := hid (cst_length (cosN m H))
    clear hs
    go_enter Try.func16, Try.ntmps16
    go_wp2_with fail
    refine (sCosetsOf_any _ _ _ _ _ _ hl hst.grp).mono ?_; rintro e w1 ⟨g, gc, rfl, hmade⟩; rw [hcf.out] at hmade ⊢; rw [s1]
    have hst1 := hst.step hmade.below
    have hst2 := hst1.step ((Below.refl _ _).alloc (Nat.le_refl _) (.cells #[] 3))
    have hgr2 := GrowB.start (w := w) (w0 := w1) hst1.below (by have := hst1.size; omega) w1.heap.size rfl
    have hne2 : (Value.slice (some ⟨w1.heap.size, 0, none⟩) 0 0).ownBlock ≠ some g := fun e => by have h1 := hmade.lt; simp [Value.ownBlock] at e; omega
    have hl2 := hmade.grp.alloc (.cells #[] 3)
    have hbox2 := hst2.box
    clear hst hmade hst1
    clear hcf
    generalize cosN m H = L at *
    go_wp2_with fail
    refine (sIsSet_any _ _ _ _ _ _ hl hst2.grp).mono ?_; rintro e w2 ⟨rfl, hb2⟩; rw [s2]
    have hG : StG w b off cap (cst m) g (cst L) (cst (quTo L A 0)) _ w2 := ⟨hst2.step hb2, hl2.below hb2, hgr2.step hb2, hne2⟩
    clear hst2 hl2 hgr2 hne2 hb2 hbox2
    go_wp2
    go_loopw [10, 11] (fun o i wr => ∃ k : Nat, i = .int .i64 k ∧ k ≤ (cst L).length ∧ StG w b off cap (cst m) g (cst L) (cst (quTo L A k)) o wr) (fun _ i _ => (cst L).length - (intOf i).toNat)
    case atStart => exact ⟨0, rfl, by omega, hG⟩
    case round =>
      clear hG
      rename_i wr
      obtain ⟨k, rfl, hk1, hGr⟩ := hrel
      by_cases hlt : k < (cst L).length
      · have hck := hGr.lst.nat0 k hlt
        have hltL : k < L.length := by have := hlc.out; omega
        have hC := hc24.out _ (getD_mem L 0 k hltL)
        have hsn : Hid (cst (quTo L A (k + 1)) = cst (quTo L A k) ++ [((card (L.getD k 0 &&& A) : Nat) : Int)]) := by unfold Hid; rw [quTo_succ hltL, cst_snoc]
        have hlen : (cst (quTo L A k)).length ≤ 24 := by rw [cst_length]; have := quTo_len L A k; omega
        obtain ⟨C, hCe⟩ : ∃ C, Hid (L.getD k 0 = C) := ⟨_, rfl⟩
        rw [hCe.out] at hC hck hsn
        have hsd := bits_and_nat C A (by omega) (by omega)
        have hCA : C &&& A < 16777216 := nat_and_lt hC
        generalize quTo L A k = G at *
        go_wp2_with fail
        refine (l3Bits_any _ _ hCA).mono ?_; rintro e w4 ⟨rfl, rfl⟩
        have hown := hGr.gr.own
        generalize card (C &&& A) = d at *
        go_wp2_with (at_builtin; refine wpList_append_own_at _ rfl _ _ 22 rfl (w.heap.size + 1) 3 i0 (.int .i64 0) 1 8 Try.underlying22 hi hz0 hz1 hz2 rfl (by decide) _ _ _ rfl (hown.alloc _) ⟨wr.heap.size, 0, none⟩ 1 1 [.int .i64 d] rfl rfl ?c1 ?c2 ?c3 ?c4 ?c5 ?_)
        case c1 => exact cell_one_new _ _ _
        case c2 => intro u hu; simp at hu; subst hu; rfl
        case c3 => simp only [maxLen]; omega
        case c4 => omega
        case c5 => have := hGr.st.size; simp; omega
        intro v' w6 hown' hgrow hnil hat
        have hp := hid (hGr.push hbw hown' hgrow hnil hat)
        clear hown hown' hgrow hnil hat hGr
        go_wp2
        go_roundw
        case rel => exact ⟨k + 1, by go_num, by omega, by rw [hsn.out]; exact hp.out⟩
        case measure => simp [intOf]; omega
      · have hend : Hid (cst (quTo L A k) = quF (cst m) H A) := by unfold Hid; rw [hr.out, show k = L.length from by have := hlc.out; omega]
        have hgr := hGr.gr
        rw [hend.out] at hgr
        go_wp2
        go_ret2
        rw [hk.out]
        exact hgr.retB true
  · have hs' : coOk l h a = false := by simpa using hs
    have hr := hid (quF_no hs')
    have hk := hid hs'
    clear hs
    rcases coOk_no hs' with h1 | ⟨h1, h2⟩
    · clear hs'
      go_enter Try.func16, Try.ntmps16
      go_wp2_with fail
      refine (sCosetsOf_any _ _ _ _ _ _ hl hst.grp).mono ?_; rintro e w1 ⟨g, gc, rfl, hmade⟩; rw [h1]
      have hst1 := hst.step hmade.below
      have hst2 := hst1.step ((Below.refl _ _).alloc (Nat.le_refl _) (.cells #[] 3))
      have hgr2 := GrowB.start (w := w) (w0 := w1) hst1.below (by have := hst1.size; omega) w1.heap.size rfl
      have hne2 : (Value.slice (some ⟨w1.heap.size, 0, none⟩) 0 0).ownBlock ≠ some g := fun e => by have h1 := hmade.lt; simp [Value.ownBlock] at e; omega
      have hl2 := hmade.grp.alloc (.cells #[] 3)
      have hbox2 := hst2.box
      clear hst hmade hst1
      go_wp2
      go_ret2
      rw [hr.out, hk.out]
      exact hgr2.retB false
    · clear hs'
      go_enter Try.func16, Try.ntmps16
      go_wp2_with fail
      refine (sCosetsOf_any _ _ _ _ _ _ hl hst.grp).mono ?_; rintro e w1 ⟨g, gc, rfl, hmade⟩; rw [h1]
      have hst1 := hst.step hmade.below
      have hst2 := hst1.step ((Below.refl _ _).alloc (Nat.le_refl _) (.cells #[] 3))
      have hgr2 := GrowB.start (w := w) (w0 := w1) hst1.below (by have := hst1.size; omega) w1.heap.size rfl
      have hne2 : (Value.slice (some ⟨w1.heap.size, 0, none⟩) 0 0).ownBlock ≠ some g := fun e => by have h1 := hmade.lt; simp [Value.ownBlock] at e; omega
      have hl2 := hmade.grp.alloc (.cells #[] 3)
      have hbox2 := hst2.box
      clear hst hmade hst1
      go_wp2_with fail
      refine (sIsSet_any _ _ _ _ _ _ hl hst2.grp).mono ?_; rintro e w2 ⟨rfl, hb2⟩; rw [h2]
      have hgr3 := hgr2.step hb2
      go_wp2
      go_ret2
      rw [hr.out, hk.out]
      exact hgr3.retB false
end Go.Proofs.Ytbhgifhhjaeibaa
