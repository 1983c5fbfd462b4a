/-
  Contracts: the steps with which a set is a progression.
-/
import Derived.Test.YtpflnmcecnbilaaPro
import Derived.Test.YtpflnmcecnbilaaBits
import Derived.Maps.AppendAt
import Derived.Deep.RegionHeld3
namespace Go.Proofs.Ytpflnmcecnbilaa
open Go.RowKit

theorem mem_lt_ord {A n x : Nat} (hA : A < 2 ^ n) (hx : x ∈ mem A) : x < n := by
  have h := mem_testBit hx
  rcases Nat.lt_or_ge x n with h1 | h1
  · exact h1
  · have := Nat.testBit_lt_two_pow (Nat.lt_of_lt_of_le hA (Nat.pow_le_pow_right (by omega : 0 < 2) h1))
    rw [this] at h; simp at h
def isStep (m : List Nat) (A d : Nat) : Bool := (mem A).any fun x => decide (ofL (progTo m x d (card A)) = A)
def stepsTo (m : List Nat) (A k : Nat) : List Nat := (List.range k).filter (isStep m A)
theorem isStep_yes {m : List Nat} {A d k x : Nat} (hk : k < (mem A).length) (hx : (mem A).getD k 0 = x) (h : ofL (progTo m x d (card A)) = A) : isStep m A d = true := by
  unfold isStep; rw [List.any_eq_true]; exact ⟨x, by rw [← hx]; exact getD_mem _ 0 k hk, by simp [h]⟩
theorem isStep_no {m : List Nat} {A d : Nat} (h : ∀ j, j < (mem A).length → ¬ ofL (progTo m ((mem A).getD j 0) d (card A)) = A) : isStep m A d = false := by
  rw [Bool.eq_false_iff]; intro hc
  unfold isStep at hc; rw [List.any_eq_true] at hc
  obtain ⟨x, hx, he⟩ := hc
  obtain ⟨j, hj, rfl⟩ := List.getElem_of_mem hx
  refine h j hj ?_
  simpa [List.getD_eq_getElem?_getD, List.getElem?_eq_getElem hj] using he
theorem stepsTo_yes {m : List Nat} {A k : Nat} (h : isStep m A k = true) : stepsTo m A (k + 1) = stepsTo m A k ++ [k] := by simp [stepsTo, List.range_succ, h]
theorem stepsTo_no {m : List Nat} {A k : Nat} (h : isStep m A k = false) : stepsTo m A (k + 1) = stepsTo m A k := by simp [stepsTo, List.range_succ, h]
theorem stepsTo_len (m : List Nat) (A k : Nat) : (cst (stepsTo m A k)).length ≤ k := by
  rw [cst_length]; unfold stepsTo; exact Nat.le_trans (List.length_filter_le _ _) (by simp)
def difOk (l : List Int) (a : Int) : Bool := isSetB l a && !(a == 0)
theorem difOk_yes {l : List Int} {a : Int} (h : difOk l a = true) : isSetB l a = true ∧ (a == 0) = false := by simpa [difOk] using h
theorem difOk_no {l : List Int} {a : Int} (h : difOk l a = false) : isSetB l a = false ∨ (isSetB l a = true ∧ (a == 0) = true) := by
  cases h1 : isSetB l a
  · exact .inl rfl
  · exact .inr ⟨rfl, by simpa [difOk, h1] using h⟩
def difsF (l : List Int) (a : Int) : List Int := if difOk l a = true then cst (stepsTo (toN l) a.toNat (prodN (toN l))) else []
theorem difsF_yes {m : List Nat} {A : Nat} (h : difOk (cst m) A = true) : difsF (cst m) A = cst (stepsTo m A (prodN m)) := by
  unfold difsF; rw [if_pos h, toN_cst, Int.toNat_natCast]
theorem difsF_no {l : List Int} {a : Int} (h : difOk l a = false) : difsF l a = [] := by unfold difsF; rw [if_neg (by simp [h])]
theorem difsF_len24 (l : List Int) (a : Int) : (difsF l a).length ≤ 24 := by
  by_cases h : difOk l a = true
  · obtain ⟨m, A, hm, rfl, rfl, hA⟩ := isSetB_iff.1 (difOk_yes h).1
    rw [difsF_yes h]; exact Nat.le_trans (stepsTo_len _ _ _) hm.ord
  · rw [difsF_no (by simpa using h)]; simp
theorem difsF_len (l : List Int) (a : Int) : (difsF l a).length ≤ 1048576 := Nat.le_trans (difsF_len24 l a) (by omega)

/-- the world with a boxed group, a list, and a list that grows -/
structure StG (w : World) (b off cap : Nat) (l : List Int) (g : Nat) (L G : List Int) (o : Value) (wr : World) : Prop where
  st : St w b off cap l wr
  lst : GrpAt wr g 0 L
  gr : GrowB w G o wr
  ne : o.ownBlock ≠ some g
section
variable {w wr w1 : World} {b off cap g : Nat} {l L G : List Int} {o : Value}
theorem StG.step (h : StG w b off cap l g L G o wr) (hb : Below wr.heap.size wr w1) : StG w b off cap l g L G o w1 := ⟨h.st.step hb, h.lst.below hb, h.gr.step hb, h.ne⟩
theorem StG.drew (h : StG w b off cap l g L G o wr) : StG w b off cap l g L G o wr.drew := h.step (Below.refl _ _).drew
theorem StG.push {v' : Value} {x : Int} {ob : Obj} (h : StG w b off cap l g L G o wr) (hbw : b < w.heap.size) (hown : w1.ownsRow (w.heap.size + 1) 3 1 v' (G.length + 1) (G.map (Value.int .i64) ++ [.int .i64 x]))
    (hg : (wr.alloc ob).grownBy w1 o.ownBlock) (hn : ¬ v' = .slice none 0 0) (hat : v'.ownBlock = o.ownBlock ∨ v'.ownBlock = some (wr.heap.size + 1)) : StG w b off cap l g L (G ++ [x]) v' w1 := by
  have hal : GrpAt (wr.alloc ob) g 0 L := h.lst.alloc ob
  refine ⟨h.st.grown hbw hg h.gr, ⟨Nat.lt_of_lt_of_le hal.blt hg.size, fun i hi => ?_⟩, h.gr.push hown hg hn, ?_⟩
  · rw [← hal.cell i hi]; exact World.cell?_of_block (hg.block _ hal.blt (fun e => h.ne e.symm))
  · rcases hat with e | e
    · rw [e]; exact h.ne
    · rw [e]; intro c; have := hal.blt; simp at c this; omega
theorem StG.hold (h : StG w b off cap l g L G o wr) : wr.cell? ⟨w.heap.size, 0, none⟩ = some (.slice (some ⟨b, off, none⟩) l.length cap) ∧ StG w b off cap l g L G o wr := ⟨h.st.box, h⟩
theorem StG.keep (h : wr.cell? ⟨w.heap.size, 0, none⟩ = some (.slice (some ⟨b, off, none⟩) l.length cap) ∧ StG w b off cap l g L G o wr) (hb : Below wr.heap.size wr w1) :
    w1.cell? ⟨w.heap.size, 0, none⟩ = some (.slice (some ⟨b, off, none⟩) l.length cap) ∧ StG w b off cap l g L G o w1 := (h.2.step hb).hold
theorem StG.grpOf (h : wr.cell? ⟨w.heap.size, 0, none⟩ = some (.slice (some ⟨b, off, none⟩) l.length cap) ∧ StG w b off cap l g L G o wr) : GrpAt wr b off l := h.2.st.grp
theorem StG.hold2 {M : List Nat} {k y : Nat} (h : StG w b off cap l g (cst M) G o wr) (hk : k < (cst M).length) (hy : Hid (M.getD k 0 = y)) :
    wr.cell? ⟨w.heap.size, 0, none⟩ = some (.slice (some ⟨b, off, none⟩) l.length cap) ∧ wr.cell? ⟨g, k, none⟩ = some (.int .i64 (y : Int)) ∧ StG w b off cap l g (cst M) G o wr := ⟨h.st.box, by rw [h.lst.nat0 k hk, hy.out], h⟩
theorem StG.keep2 {M : List Nat} {k y : Nat} (h : wr.cell? ⟨w.heap.size, 0, none⟩ = some (.slice (some ⟨b, off, none⟩) l.length cap) ∧ wr.cell? ⟨g, k, none⟩ = some (.int .i64 (y : Int)) ∧ StG w b off cap l g (cst M) G o wr) (hk : k < (cst M).length) (hy : Hid (M.getD k 0 = y)) (hb : Below wr.heap.size wr w1) :
    w1.cell? ⟨w.heap.size, 0, none⟩ = some (.slice (some ⟨b, off, none⟩) l.length cap) ∧ w1.cell? ⟨g, k, none⟩ = some (.int .i64 (y : Int)) ∧ StG w b off cap l g (cst M) G o w1 := (h.2.2.step hb).hold2 hk hy
theorem StG.grpOf2 {k y : Nat} (h : wr.cell? ⟨w.heap.size, 0, none⟩ = some (.slice (some ⟨b, off, none⟩) l.length cap) ∧ wr.cell? ⟨g, k, none⟩ = some (.int .i64 (y : Int)) ∧ StG w b off cap l g L G o wr) : GrpAt wr b off l := h.2.2.st.grp
end
set_option maxHeartbeats 400000 in
theorem differencesOf_any (b off cap : Nat) (l : List Int) (a : Int) (w : World) (hl : l.length ≤ 1099511627776) (hg : GrpAt w b off l) :
    Calls Try.prog 36 #[.agg #[.slice (some ⟨b, off, none⟩) l.length cap], .int .i64 a] w (RetInts w (difsF l a)) := by
  obtain ⟨i0, hi, hz0, hz1, hz2⟩ := info_parts info_int
  have hst := (St.init cap 26 hg).step ((Below.refl _ _).alloc (Nat.le_refl _) (.cells #[] 3))
  have hgrw := GrowB.start (w := w) (w0 := w.alloc (.cells #[.slice (some ⟨b, off, none⟩) l.length cap] 26)) ((Below.refl _ _).alloc (Nat.le_refl _) _) (by simp) (w.heap.size + 1) (by simp)
  have hbw := hg.blt
  by_cases h : difOk l a = true
  · obtain ⟨y1, y2⟩ := difOk_yes h
    have h3 := isSetB_iff.1 y1
    obtain ⟨m, A, hm, rfl, rfl, hA⟩ := h3
    have hr := hid (difsF_yes h)
    have hA' := Nat.lt_of_lt_of_le hA hm.pow_le
    have hord := hm.ord
    have hc24 : card A ≤ 24 := card_le A
    have hL24 : (cst (mem A)).length ≤ 24 := by rw [cst_length]; exact hc24
    clear h
    go_enter Try.func36, Try.ntmps36
    go_wp2_with fail
    refine (isSet_any _ _ _ _ _ _ hl hst.grp).mono ?_; rintro e w1 ⟨rfl, hb1⟩; have hst1 := hst.step hb1; have hgr1 := hgrw.step hb1; have hbox1 := hst1.box
    clear hst hgrw hb1 hg
    go_wp2_with fail
    refine (orderOf_yes _ _ _ _ _ hm hst1.grp).mono ?_; rintro e w2 ⟨rfl, hb2⟩; have hst2 := hst1.step hb2; have hgr2 := hgr1.step hb2
    clear hst1 hgr1 hb2 hbox1
    go_wp2
    go_loopw [5, 21] (fun o i wr => ∃ d : Nat, i = .int .i64 d ∧ d ≤ prodN m ∧ GrowB w (cst (stepsTo m A d)) o wr ∧ St w b off cap (cst m) wr) (fun _ i _ => prodN m - (intOf i).toNat)
    case atStart => exact ⟨0, rfl, by omega, hgr2, hst2⟩
    case round =>
      clear hgr2 hst2
      rename_i wr
      obtain ⟨d, rfl, hd, hgr, hstr⟩ := hrel
      by_cases hlt : d < prodN m
      · have hlen : (cst (stepsTo m A d)).length ≤ 24 := Nat.le_trans (stepsTo_len _ _ _) (by omega)
        go_wp2_with fail
        refine (members_any A _ hA').mono ?_; rintro e w3 ⟨g, gc, rfl, hmade⟩
        have hG : StG w b off cap (cst m) g (cst (mem A)) (cst (stepsTo m A d)) u5 w3 := ⟨hstr.step hmade.below, hmade.grp, hgr.step hmade.below, fun e => by have h1 := (hgr.own.lt _ e).2; have h2 := hmade.base; omega⟩
        clear hmade hgr hstr
        go_wp2
        go_loopw [5, 27] (fun o j wr => ∃ q : Nat, j = .int .i64 q ∧ q ≤ (cst (mem A)).length ∧ Hid (∀ j, j < q → ¬ ofL (progTo m ((mem A).getD j 0) d (card A)) = A) ∧ StG w b off cap (cst m) g (cst (mem A)) (cst (stepsTo m A d)) o wr) (fun _ j _ => (cst (mem A)).length - (intOf j).toNat)
        case atStart => exact ⟨0, rfl, by omega, fun j hj => by omega, hG⟩
        case round =>
          clear hG
          rename_i wr
          obtain ⟨q, rfl, hq, hno, hGr⟩ := hrel
          by_cases hlq : q < (cst (mem A)).length
          · have hlqm : q < (mem A).length := by rw [← cst_length]; exact hlq
            have hcq := hGr.lst.nat0 q hlq
            have hxo := mem_lt_ord hA (getD_mem (mem A) 0 q hlqm)
            obtain ⟨x, hx⟩ : ∃ x, Hid ((mem A).getD q 0 = x) := ⟨_, rfl⟩
            rw [hx.out] at hcq hxo
            have hh := hGr.drew.hold
            by_cases he : ofL (progTo m x d (card A)) = A
            · have heb : (((ofL (progTo m x d (card A)) : Nat) : Int) == (A : Int)) = true := by rw [he]; simp
              have hys := hid (stepsTo_yes (isStep_yes hlqm hx.out he))
              clear he hGr
              go_wp2
              go_region_held3 (fun w' => w'.cell? ⟨w.heap.size, 0, none⟩ = some (.slice (some ⟨b, off, none⟩) (cst m).length cap) ∧ StG w b off cap (cst m) g (cst (mem A)) (cst (stepsTo m A d)) u5 w') (first | exact hh | exact StG.keep (by assumption) hb5 | assumption)
                (first | (go_at_call 114; refine (bits_any _ _ hA').mono ?_; rintro e w4 ⟨rfl, rfl⟩) | (go_at_call 134; refine (progression_any _ _ _ _ _ _ _ _ hm hxo hlt hc24 (StG.grpOf (by assumption))).mono ?_; rintro e w5 ⟨rfl, hb5⟩))
              have hG5 : StG w b off cap (cst m) g (cst (mem A)) (cst (stepsTo m A d)) u5 w5 := And.right (by assumption)
              have hown := hG5.gr.own
              clear hh hb5
              generalize stepsTo m A d = G at *
              go_wp2_with (at_builtin; refine wpList_append_own_at _ rfl _ _ 24 rfl (w.heap.size + 1) 3 i0 (.int .i64 0) 1 8 Try.underlying24 hi hz0 hz1 hz2 rfl (by decide) _ _ _ rfl (hown.alloc _) ⟨w5.heap.size, 0, none⟩ 1 1 [.int .i64 d] rfl rfl ?c1 ?c2 ?c3 ?c4 ?c5 ?_)
              case c1 => exact cell_one_new _ _ _
              case c2 => intro u hu; simp at hu; subst hu; rfl
              case c3 => simp only [maxLen]; omega
              case c4 => omega
              case c5 => have := hG5.st.size; simp; omega
              intro v' w6 hown' hgrow hnil hat
              have hp := hid (hG5.push hbw hown' hgrow hnil hat)
              clear hown hown' hgrow hnil hat hG5
              go_wp2
              go_roundw
              case rel => exact ⟨d + 1, by go_num, by omega, by rw [hys.out, cst_snoc]; exact hp.out.gr, hp.out.st⟩
              case measure => simp [intOf]; omega
            · have heb : (((ofL (progTo m x d (card A)) : Nat) : Int) == (A : Int)) = false := by rw [beq_eq_false_iff_ne]; omega
              have hno' : Hid (∀ j, j < q + 1 → ¬ ofL (progTo m ((mem A).getD j 0) d (card A)) = A) := fun j hj => by
                by_cases e : j = q
                · rw [e, hx.out]; exact he
                · exact hno.out j (by omega)
              clear he hGr
              go_wp2
              go_region_held3 (fun w' => w'.cell? ⟨w.heap.size, 0, none⟩ = some (.slice (some ⟨b, off, none⟩) (cst m).length cap) ∧ StG w b off cap (cst m) g (cst (mem A)) (cst (stepsTo m A d)) u5 w') (first | exact hh | exact StG.keep (by assumption) hb5 | assumption)
                (first | (go_at_call 114; refine (bits_any _ _ hA').mono ?_; rintro e w4 ⟨rfl, rfl⟩) | (go_at_call 134; refine (progression_any _ _ _ _ _ _ _ _ hm hxo hlt hc24 (StG.grpOf (by assumption))).mono ?_; rintro e w5 ⟨rfl, hb5⟩))
              have hG5 : StG w b off cap (cst m) g (cst (mem A)) (cst (stepsTo m A d)) u5 w5 := And.right (by assumption)
              clear hh hb5
              go_wp2
              go_roundw
              case rel => exact ⟨q + 1, by go_num, by omega, hno', hG5⟩
              case measure => simp [intOf]; omega
          · have hys : Hid (stepsTo m A (d + 1) = stepsTo m A d) := stepsTo_no (isStep_no fun j hj => hno.out j (by rw [← cst_length] at hj; omega))
            go_wp2
            go_roundw
            case rel => exact ⟨d + 1, by go_num, by omega, by rw [hys.out]; exact hGr.gr, hGr.st⟩
            case measure => simp [intOf]; omega
      · have hend : Hid (difsF (cst m) A = cst (stepsTo m A d)) := by unfold Hid; rw [hr.out, show d = prodN m from by omega]
        go_wp2
        go_ret
        rw [hend.out]
        exact hgr.ret
  · have hn : difOk l a = false := by simpa using h
    have hr := hid (difsF_no hn)
    clear h
    rcases difOk_no hn with h1 | ⟨h1, h2⟩
    all_goals
      go_enter Try.func36, Try.ntmps36
      go_wp2_with fail
      refine (isSet_any _ _ _ _ _ _ hl hst.grp).mono ?_; rintro e w1 ⟨rfl, hb1⟩; have hgr1 := hgrw.step hb1
      clear hst hgrw hb1 hg
      go_wp2
      go_ret
      rw [hr.out]
      exact hgr1.ret
set_option maxHeartbeats 400000 in
theorem sDifferencesOf_any (b off cap : Nat) (l : List Int) (a : Int) (w : World) (hl : l.length ≤ 1099511627776) (hg : GrpAt w b off l) :
    Calls Try.prog 37 #[.agg #[.slice (some ⟨b, off, none⟩) l.length cap], .int .i64 a] w (RetInts w (difsF l a)) := by
  obtain ⟨i0, hi, hz0, hz1, hz2⟩ := info_parts info_int
  have hst := (St.init cap 26 hg).step ((Below.refl _ _).alloc (Nat.le_refl _) (.cells #[] 3))
  have hgrw := GrowB.start (w := w) (w0 := w.alloc (.cells #[.slice (some ⟨b, off, none⟩) l.length cap] 26)) ((Below.refl _ _).alloc (Nat.le_refl _) _) (by simp) (w.heap.size + 1) (by simp)
  have hbw := hg.blt
  by_cases h : difOk l a = true
  · obtain ⟨y1, y2⟩ := difOk_yes h
    have h3 := isSetB_iff.1 y1
    obtain ⟨m, A, hm, rfl, rfl, hA⟩ := h3
    have hr := hid (difsF_yes h)
    have hA' := Nat.lt_of_lt_of_le hA hm.pow_le
    have hord := hm.ord
    have hc24 : card A ≤ 24 := card_le A
    have hL24 : (cst (mem A)).length ≤ 24 := by rw [cst_length]; exact hc24
    clear h
    go_enter Try.func37, Try.ntmps37
    go_wp2_with fail
    refine (sIsSet_any _ _ _ _ _ _ hl hst.grp).mono ?_; rintro e w1 ⟨rfl, hb1⟩; have hst1 := hst.step hb1; have hgr1 := hgrw.step hb1; have hbox1 := hst1.box
    clear hst hgrw hb1 hg
    go_wp2_with fail
    refine (l3Bits_any _ _ hA').mono ?_; rintro e w2 ⟨rfl, rfl⟩
    go_wp2_with fail
    refine (l3List_any A _ hA').mono ?_; rintro e w3 ⟨g, gc, rfl, hmade⟩
    have hG : StG w b off cap (cst m) g (cst (mem A)) (cst (stepsTo m A 0)) _ w3 := ⟨hst1.step hmade.below, hmade.grp, hgr1.step hmade.below, fun e => by have h1 := (hgr1.own.lt _ e).2; have h2 := hmade.base; omega⟩
    clear hmade hgr1 hst1 hbox1
    go_wp2
    go_loopw [5, 8] (fun o i wr => ∃ d : Nat, i = .int .i64 d ∧ d ≤ prodN m ∧ StG w b off cap (cst m) g (cst (mem A)) (cst (stepsTo m A d)) o wr) (fun _ i _ => prodN m - (intOf i).toNat)
    case atStart => exact ⟨0, rfl, by omega, hG⟩
    case round =>
      clear hG
      rename_i wr
      obtain ⟨d, rfl, hd, hGr⟩ := hrel
      have hbox := hGr.st.box
      go_wp2_with fail
      refine (l2Order_any _ _ _ _ _ hm hGr.st.grp).mono ?_; rintro e w4 ⟨rfl, hb4⟩
      have hG4 := hGr.step hb4
      clear hGr hbox hb4
      by_cases hlt : d < prodN m
      · have hlen : (cst (stepsTo m A d)).length ≤ 24 := Nat.le_trans (stepsTo_len _ _ _) (by omega)
        go_wp2
        go_loopw [9, 10] (fun f j wr => ∃ (q : Nat) (F : Bool), j = .int .i64 q ∧ q ≤ (cst (mem A)).length ∧ f = .bool F ∧ Hid (F = true → isStep m A d = true) ∧ Hid (F = false → ∀ j, j < q → ¬ ofL (progTo m ((mem A).getD j 0) d (card A)) = A) ∧ StG w b off cap (cst m) g (cst (mem A)) (cst (stepsTo m A d)) u5 wr) (fun _ j _ => (cst (mem A)).length - (intOf j).toNat)
        case atStart => exact ⟨0, false, rfl, by omega, rfl, (fun e => by simp at e), (fun _ j hj => by omega), hG4⟩
        case round =>
          clear hG4
          rename_i wr
          obtain ⟨q, F, rfl, hq, rfl, hF1, hF2, hGr⟩ := hrel
          cases F with
          | true =>
            have hys := hid (stepsTo_yes (hF1.out rfl))
            clear hF1 hF2
            by_cases hlq : q < (cst (mem A)).length
            all_goals
              have hown := hGr.gr.own
              generalize stepsTo m A d = G at *
              go_wp2_with (at_builtin; refine wpList_append_own_at _ rfl _ _ 24 rfl (w.heap.size + 1) 3 i0 (.int .i64 0) 1 8 Try.underlying24 hi hz0 hz1 hz2 rfl (by decide) _ _ _ rfl (hown.alloc _) ⟨wr.heap.size, 0, none⟩ 1 1 [.int .i64 d] rfl rfl ?c1 ?c2 ?c3 ?c4 ?c5 ?_)
              case c1 => exact cell_one_new _ _ _
              case c2 => intro u hu; simp at hu; subst hu; rfl
              case c3 => simp only [maxLen]; omega
              case c4 => omega
              case c5 => have := hGr.st.size; simp; omega
              intro v' w6 hown' hgrow hnil hat
              have hp := hid (hGr.push hbw hown' hgrow hnil hat)
              clear hown hown' hgrow hnil hat hGr
              go_wp2
              go_roundw
              case rel => exact ⟨d + 1, by go_num, by omega, by rw [hys.out, cst_snoc]; exact hp.out⟩
              case measure => simp [intOf]; omega
          | false =>
            have hno := hid (hF2.out rfl)
            clear hF1 hF2
            by_cases hlq : q < (cst (mem A)).length
            · have hlqm : q < (mem A).length := by rw [← cst_length]; exact hlq
              have hxo := mem_lt_ord hA (getD_mem (mem A) 0 q hlqm)
              obtain ⟨x, hx⟩ : ∃ x, Hid ((mem A).getD q 0 = x) := ⟨_, rfl⟩
              rw [hx.out] at hxo
              have hh := hGr.drew.hold2 hlq hx
              obtain ⟨F, hF⟩ : ∃ F, Hid (F = decide (ofL (progTo m x d (card A)) = A)) := ⟨_, rfl⟩
              have heb : (((ofL (progTo m x d (card A)) : Nat) : Int) == (A : Int)) = F := by rw [hF.out, Bool.eq_iff_iff]; simp; omega
              have h1 : Hid (F = true → isStep m A d = true) := fun e => isStep_yes hlqm hx.out (by rw [hF.out] at e; simpa using e)
              have h2 : Hid (F = false → ∀ j, j < q + 1 → ¬ ofL (progTo m ((mem A).getD j 0) d (card A)) = A) := fun e j hj => by
                by_cases e' : j = q
                · rw [e', hx.out]; rw [hF.out] at e; simpa using e
                · exact hno.out j (by omega)
              clear hGr
              go_wp2
              go_region_held3 (fun w' => w'.cell? ⟨w.heap.size, 0, none⟩ = some (.slice (some ⟨b, off, none⟩) (cst m).length cap) ∧ w'.cell? ⟨g, q, none⟩ = some (.int .i64 (x : Int)) ∧ StG w b off cap (cst m) g (cst (mem A)) (cst (stepsTo m A d)) u5 w') (first | exact hh | exact StG.keep2 (by assumption) hlq hx hb5 | assumption)
                (first | (go_at_call 136; refine (l10Progression_any _ _ _ _ _ _ _ _ hm hxo hlt hc24 (StG.grpOf2 (by assumption))).mono ?_; rintro e w5 ⟨rfl, hb5⟩))
              have hG5 : StG w b off cap (cst m) g (cst (mem A)) (cst (stepsTo m A d)) u5 w5 := And.right (And.right (by assumption))
              clear hh hb5
              go_wp2
              go_roundw
              case rel => exact ⟨q + 1, F, by go_num, by omega, rfl, h1, h2, hG5⟩
              case measure => simp [intOf]; omega
            · have hys : Hid (stepsTo m A (d + 1) = stepsTo m A d) := stepsTo_no (isStep_no fun j hj => hno.out j (by rw [← cst_length] at hj; omega))
              go_wp2
              go_roundw
              case rel => exact ⟨d + 1, by go_num, by omega, by rw [hys.out]; exact hGr⟩
              case measure => simp [intOf]; omega
      · have hend : Hid (difsF (cst m) A = cst (stepsTo m A d)) := by unfold Hid; rw [hr.out, show d = prodN m from by omega]
        go_wp2
        go_ret
        rw [hend.out]
        exact hG4.gr.ret
  · have hn : difOk l a = false := by simpa using h
    have hr := hid (difsF_no hn)
    clear h
    rcases difOk_no hn with h1 | ⟨h1, h2⟩
    all_goals
      go_enter Try.func37, Try.ntmps37
      go_wp2_with fail
      refine (sIsSet_any _ _ _ _ _ _ hl hst.grp).mono ?_; rintro e w1 ⟨rfl, hb1⟩; have hgr1 := hgrw.step hb1
      clear hst hgrw hb1 hg
      go_wp2
      go_ret
      rw [hr.out]
      exact hgr1.ret
/-- whether a set is a progression -/
def isProgF (l : List Int) (a : Int) : Bool := decide (0 < (difsF l a).length)
theorem isProgF_i (l : List Int) (a : Int) : decide (0 < ((difsF l a).length : Int)) = isProgF l a := by unfold isProgF; rw [Bool.eq_iff_iff]; simp
theorem isProgression_any (b off cap : Nat) (l : List Int) (a : Int) (w : World) (hl : l.length ≤ 1099511627776) (hg : GrpAt w b off l) :
    Calls Try.prog 38 #[.agg #[.slice (some ⟨b, off, none⟩) l.length cap], .int .i64 a] w fun e w' => e = .returned (.bool (isProgF l a)) ∧ Below w.heap.size w w' := by
  have hst := St.init cap 26 hg
  go_enter Try.func38, Try.ntmps38
  go_wp2_with fail
  refine (differencesOf_any _ _ _ _ _ _ hl hst.grp).mono ?_; rintro e w1 ⟨g, gc, rfl, hmade⟩; have hst1 := hst.step hmade.below
  clear hmade hst
  go_wp2
  go_ret
  exact ⟨ret_b rfl, hst1.below⟩
end Go.Proofs.Ytpflnmcecnbilaa
