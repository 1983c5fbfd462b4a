/-
  Proved: FnExactCoefficientCounts returns true for every group and integers, and leaves its arguments as they were.
  Conditions: none.
-/
import Derived.Test.YtggjbicllnppkaaLaw3
import Derived.Test.YtggjbicllnppkaaLift
import Derived.Test.YtggjbicllnppkaaCoef
namespace Go.Proofs.Ytggjbicllnppkaa.lawCoefficientCounts
open Go.ChangeShapes Go.WideShapes Go.ChangeAt Go.RowKit

set_option maxHeartbeats 400000 in
theorem walk (a : Option Addr) (cap : Nat) (l : List Int) (a0 : Int) (a1 : Int) (w : World) (hl : l.length ≤ 9223372036854775807) (hr : RowV w a l) :
    Calls Try.prog 6 #[.agg #[.slice a l.length cap], .int .i64 a0, .int .i64 a1] w fun e w' => e = .returned (.bool true) ∧ Below w.heap.size w w' := by
  have hst := StR.init cap 24 hr
  have hold := hid (rowV_old hr)
  by_cases hn : l.length ≤ 1048576
  · have hsz := szv_yes hn
    have hrl := hid (coefF_len l a0 a1)
    generalize hR : coefF l a0 a1 = R at hrl
    have hR := hid hR
    have heq := hid (eqL_refl R)
    have heqg := hid (eqL_refl l)
    go_enter Try.func6, Try.ntmps6
    go_wp2_with fail
    refine (szGroup_any _ _ _ _ hl).mono ?_; rintro e w1 ⟨rfl, hb1⟩; have hst1 := hst.step hb1; have hbox1 := hst1.box; clear hb1 hst
    go_wp2_with fail
    refine (toGroup_any _ _ _ _ hn hst1.row).mono ?_; rintro e w2 ⟨g1, c1, rfl, hm1⟩; have hst2 := hst1.step hm1.below; have hg1 := hm1.grp; clear hm1 hst1 hbox1
    go_wp2_with fail
    refine (sCoefficientCounts_any _ _ _ _ _ _ _ (by omega) hg1).mono ?_; rintro e w3 ⟨s, cs, rfl, hms⟩; rw [hR.out] at hms ⊢; have hst3 := hst2.step hms.below; have hbox3 := hst3.box; have hss := hid hms.lt; have hs1 := hid (Nat.lt_of_lt_of_le hst2.size hms.base); have hsg := hms.grp; clear hms hst2 hg1
    go_wp2_with fail
    refine (toGroup_any _ _ _ _ hn hst3.row).mono ?_; rintro e w4 ⟨g2, c2, rfl, hm2⟩; have hst4 := hst3.step hm2.below; have hsg4 := hsg.below hm2.below; have hx1 := (StX.init (c := c2) 27 hst4 hm2.grp).xbox; have hg2 := (StX.init (c := c2) 27 hst4 hm2.grp).xgrp; clear hst3 hbox3 hsg
    go_wp2_with fail
    refine (coefficientCounts_any _ _ _ _ _ _ _ (by omega) hg2).mono ?_; rintro e w5 ⟨r, cr, rfl, hmr⟩; rw [hR.out] at hmr ⊢; have hy := StY.init hst4 hm2 rfl hsg4 hss.out hs1.out 27 hmr hold.out; clear hm2 hsg4 hmr hst4 hg2 hss hs1 hx1
    have hrg := hy.resGrp
    have hsg := hy.spec
    go_wp2_with fail
    refine (eqIntS_any _ _ _ _ _ _ _ _ _ hrl.out hrl.out hrg hsg).mono ?_; rintro e w6 ⟨rfl, hb6⟩; rw [heq.out]; have hy6 := (hy.step hb6).hold; clear hb6 hy hrg hsg
    go_wp2
    go_region_held3 (fun w' => w'.cell? ⟨w.heap.size, 0, none⟩ = some (.slice a l.length cap) ∧ w'.cell? ⟨w4.heap.size, 0, none⟩ = some (.slice (some ⟨g2, 0, none⟩) l.length c2) ∧ StY w a cap l w4.heap.size g2 c2 l s R r cr R w') (first | exact hy6 | exact StY.keep hy6 (Below.refl _ _).drew | exact StY.keep (by assumption) hb8 | exact StY.keep (by assumption) hm7.below)
      (first | (go_at_call 17; refine (toGroup_any _ _ _ _ hn (StY.rowOf (by assumption))).mono ?_; rintro e w7 ⟨g7, c7, rfl, hm7⟩; have hg7 := hm7.grp) | (go_at_call 19; refine (eqGroup_any _ _ _ _ _ _ _ _ _ hn hn (StY.xgrpOf (by assumption)) (by assumption)).mono ?_; rintro e w8 ⟨rfl, hb8⟩; rw [heqg.out]))
    have hy8 : StY w a cap l w4.heap.size g2 c2 l s R r cr R w8 := And.right (And.right (by assumption))
    have hx8 := hy8.xbox
    obtain ⟨B8, hx⟩ := hy8.xown
    go_wp2_with fail
    refine (markGroup_any B8 g2 c2 1 l _ hn (by omega) hx).mono ?_; rintro e w9 ⟨rfl, hm9, hgr9⟩; have hy9 := hy8.markX hm9 hgr9; have hrg9 := hy9.resGrp; have hsg9 := hy9.spec; clear hy8 hx8 hx hm9 hgr9 hy6
    go_wp2_with fail
    refine (eqIntS_any _ _ _ _ _ _ _ _ _ hrl.out hrl.out hrg9 hsg9).mono ?_; rintro e w10 ⟨rfl, hb10⟩; rw [heq.out]; have hy10 := hy9.step hb10; clear hy9 hrg9 hsg9 hb10
    obtain ⟨B10, hr10⟩ := hy10.res
    go_wp2_with fail
    refine (markIntS_any B10 r cr 1 R _ hrl.out (by omega) hr10).mono ?_; rintro e w11 ⟨rfl, hm11, hgr11⟩; have hy11 := hy10.markR hm11 hgr11; have hbox11 := hy11.st.box; clear hy10 hr10 hgr11
    go_wp2_with fail
    refine (heldIntS_any _ _ _ 1 R.length _ hrl.out (by omega) hm11).mono ?_; rintro e w12 ⟨rfl, rfl⟩
    go_wp2_with fail
    refine (toGroup_any _ _ _ _ hn hy11.st.row).mono ?_; rintro e w13 ⟨g13, c13, rfl, hm13⟩; have hy13 := hy11.step hm13.below; have hg13 := hm13.grp; have ho13 := hm11.step hm13.below; clear hm11 hy11 hm13 hbox11
    go_wp2_with fail
    refine (coefficientCounts_any _ _ _ _ _ _ _ (by omega) hg13).mono ?_; rintro e w14 ⟨r14, c14, rfl, hm14⟩; rw [hR.out] at hm14 ⊢; have hy14 := hy13.step hm14.below; have hg14 := hm14.grp; have ho14 := ho13.step hm14.below; have hs14 := hy14.spec; clear hy13 hg13 ho13 hm14
    go_wp2_with fail
    refine (eqIntS_any _ _ _ _ _ _ _ _ _ hrl.out hrl.out hg14 hs14).mono ?_; rintro e w15 ⟨rfl, hb15⟩; rw [heq.out]; have hy15 := hy14.step hb15; have ho15 := ho14.step hb15; clear hy14 ho14 hg14 hs14 hb15
    go_wp2_with fail
    refine (heldIntS_any _ _ _ 1 R.length _ hrl.out (by omega) ho15).mono ?_; rintro e w16 ⟨rfl, rfl⟩
    go_wp2
    go_ret
    exact ⟨rfl, hy15.st.below⟩
  · have hsz := szv_no hn
    go_enter Try.func6, Try.ntmps6
    go_wp2_with fail
    refine (szGroup_any _ _ _ _ hl).mono ?_; rintro e w1 ⟨rfl, hb1⟩; have hst1 := hst.step hb1
    go_wp2
    go_ret
    exact ⟨rfl, hst1.below⟩

set_option linter.unusedVariables false in
set_option maxRecDepth 100000 in
theorem lifted (os : Os) (started : os.Started) (H : Type) (enc : TypeId × Value → H) :
    ReturnsInHanded {} Try.checked os 6 .any (Rows.fnExactCoefficientCountsSpec.pre6 enc Try.prog Try.f6 Rows.fnExactCoefficientCountsRow.domain false) (Rows.fnExactCoefficientCountsSpec.post enc Try.prog Try.f6 false true false false) := by
  refine returnsInHanded_of_change (C := Try.checked) own started (by kernel_rfl) Try.func6
    (ChangeSpec.witness6 (enc := enc) (C := Try.checked) false ⟨#[], #[.agg #[.slice none 0 0], .int .i64 0, .int .i64 0], []⟩ 8 (by kernel_rfl) (by kernel_rfl) (by kernel_rfl) (by kernel_rfl)) ?_
  intro W base args ds gs before hval0 hW hcnd _
  have hval : ∀ (j : Nat) t v, Try.f6.params[j]? = some t → args[j]? = some v → Value.okWide Try.prog W .any base t v := hval0
  have hW' := hW
  obtain ⟨p, q, hA0, hV, rfl, hfz, hnd⟩ := hW
  have hA : DataW.TrodAll enc Try.prog W 0 (fun _ => true) true Try.f6.params.toList args.toList ds p := hA0
  rw [Try.params6] at hA hval
  obtain ⟨v0, vs0, d0, ds0, p0, q0, hargs, rfl, rfl, h0, r0⟩ := trodAll_cons hA
  obtain ⟨v1, vs1, d1, ds1, p1, q1, rfl, rfl, rfl, h1, r1⟩ := trodAll_cons r0
  obtain ⟨v2, vs2, d2, ds2, p2, q2, rfl, rfl, rfl, h2, r2⟩ := trodAll_cons r1
  obtain ⟨rfl, rfl, rfl⟩ := trodAll_nil r2
  obtain rfl : args = #[v0, v1, v2] := by cases args; simp_all
  obtain ⟨rfl, rfl⟩ := trodVars_none hV
  have k0 := h0
  have lt0 : ∀ x ∈ p0, x.block < W.heap.size := by obtain ⟨m, hm⟩ := k0; exact DataW.trod_lt m _ _ _ hm
  obtain ⟨a0, l0, cap0, rfl, hr0, hl0⟩ := open_group (hval 0 24 v0 rfl rfl) h0
  obtain ⟨i1, rfl, rfl, rfl, w1⟩ := open_int Try.underlying3 (hval 1 3 v1 rfl rfl) h1
  obtain ⟨i2, rfl, rfl, rfl, w2⟩ := open_int Try.underlying3 (hval 2 3 v2 rfl rfl) h2
  clear hA0 hval0
  refine (walk a0 cap0 l0 i1 i2 W hl0 hr0).mono fun e W' ⟨he, bel⟩ => ?_
  subst he
  exact ⟨_, rfl, _, _, _, [], _, [], hW', trodAll_mk1 (shut_bool Try.underlying4 _), (trodAll_cons_mk (Below.trod laidOut (by kernel_rfl) (of_decide_eq_true (by kernel_rfl)) k0 bel lt0) (trodAll_cons_mk (shut_int Try.underlying3 w1) (trodAll_cons_mk (shut_int Try.underlying3 w2) trodAll_mk0))), rfl, bel.frame _, fun h => by cases h⟩

theorem over : Rows.fnExactCoefficientCountsRow.holds Try.pinned (OpenSpec.ofChange Rows.fnExactCoefficientCountsSpec) :=
  OpenClaim.holds_of_wide 6 Try.f6 rfl rfl rfl rfl rfl rfl rfl ⟨rfl, rfl, rfl, rfl, rfl⟩ rfl rfl rfl rfl rfl (by kernel_rfl) Try.func6 (by kernel_rfl)
    (of_decide_eq_true (by kernel_rfl)) (by unfold Func.isWrapper; first | (rw [if_pos (by decide +kernel)]; kernel_rfl) | (rw [if_neg (by decide +kernel)]; exact ⟨rfl, rfl⟩))
    (fun os started H enc _ => lifted os started H enc)

theorem proved : Rows.FnExactCoefficientCountsSaid := over
#print axioms proved
end Go.Proofs.Ytggjbicllnppkaa.lawCoefficientCounts
