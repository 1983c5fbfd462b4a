/-
  Proved: FnExactIsZeroCoefficient returns true for every group and integers, and leaves its arguments as they were.
  Conditions: none.
-/
import Derived.Test.YtpflnmcecnbilaaLaw2
import Derived.Test.YtpflnmcecnbilaaLift
import Derived.Test.YtpflnmcecnbilaaIsz2
namespace Go.Proofs.Ytpflnmcecnbilaa.lawIsZeroCoefficient
open Go.ChangeShapes Go.WideShapes Go.ChangeAt Go.RowKit

set_option maxHeartbeats 400000 in
theorem walk (a : Option Addr) (cap : Nat) (l : List Int) (a0 : Int) (a1 : Int) (w : World) (hl : l.length ≤ 9223372036854775807) (hr : RowV w a l) :
    Calls Try.prog 6 #[.agg #[.slice a l.length cap], .int .i64 a0, .int .i64 a1] w fun e w' => e = .returned (.bool true) ∧ Below w.heap.size w w' := by
  have hst := StR.init cap 52 hr
  by_cases hn : l.length ≤ 1048576
  · have hsz := szv_yes hn
    have heq := eqL_refl l
    go_enter Try.func6, Try.ntmps6
    go_wp2_with fail
    refine (szGroup_any _ _ _ _ hl).mono ?_; rintro e w1 ⟨rfl, hb1⟩; have hst1 := hst.step hb1; have hbox1 := hst1.box; clear hb1 hst
    go_wp2_with fail
    refine (toGroup_any _ _ _ _ hn hst1.row).mono ?_; rintro e w2 ⟨g1, c1, rfl, hm1⟩; have hst2 := hst1.step hm1.below; have hg1 := hm1.grp; clear hm1 hst1 hbox1
    go_wp2_with fail
    refine (sIsZeroCoefficient_any _ _ _ _ _ _ _ (by omega) hg1).mono ?_; rintro e w3 ⟨rfl, hb3⟩; have hst3 := hst2.step hb3; have hbox3 := hst3.box; clear hb3 hst2 hg1
    go_wp2_with fail
    refine (toGroup_any _ _ _ _ hn hst3.row).mono ?_; rintro e w4 ⟨g2, c2, rfl, hm2⟩; have hst4 := hst3.step hm2.below; have hg2 := hm2.grp; have hsx := StX.init (c := c2) 26 hst4 hg2; clear hm2 hst3 hbox3 hst4 hg2
    have hx1 := hsx.xbox
    go_wp2_with fail
    refine (isZeroCoefficient_any _ _ _ _ _ _ _ (by omega) hsx.xgrp).mono ?_; rintro e w5 ⟨rfl, hb5⟩; have hs5 := (hsx.step hb5).drew.hold; clear hb5 hsx hx1
    go_wp2
    go_region_held3 (fun w' => w'.cell? ⟨w.heap.size, 0, none⟩ = some (.slice a l.length cap) ∧ w'.cell? ⟨w4.heap.size, 0, none⟩ = some (.slice (some ⟨g2, 0, none⟩) l.length c2) ∧ StX w a cap l w4.heap.size g2 c2 w') (first | exact hs5 | exact StX.keep (by assumption) hb7 | exact StX.keep (by assumption) hm6.below)
      (first | (go_at_call 55; refine (toGroup_any _ _ _ _ hn (StX.rowOf (by assumption))).mono ?_; rintro e w6 ⟨g6, c6, rfl, hm6⟩; have hg6 := hm6.grp) | (go_at_call 57; refine (eqGroup_any _ _ _ _ _ _ _ _ _ hn hn (StX.xgrpOf (by assumption)) (by assumption)).mono ?_; rintro e w7 ⟨rfl, hb7⟩))
    have hst7 : StX w a cap l w4.heap.size g2 c2 w7 := And.right (And.right (by assumption))
    go_wp2
    go_ret
    exact ⟨rfl, hst7.st.below⟩
  · have hsz := szv_no hn
    go_enter Try.func6, Try.ntmps6
    go_wp2_with fail
    refine (szGroup_any _ _ _ _ hl).mono ?_; rintro e w1 ⟨rfl, hb1⟩; have hst1 := hst.step hb1
    go_wp2
    go_ret
    exact ⟨rfl, hst1.below⟩

set_option linter.unusedVariables false in
set_option maxRecDepth 100000 in
theorem lifted (os : Os) (started : os.Started) (H : Type) (enc : TypeId × Value → H) :
    ReturnsInHanded {} Try.checked os 6 .any (Rows.fnExactIsZeroCoefficientSpec.pre6 enc Try.prog Try.f6 Rows.fnExactIsZeroCoefficientRow.domain false) (Rows.fnExactIsZeroCoefficientSpec.post enc Try.prog Try.f6 false true false false) := by
  refine returnsInHanded_of_change (C := Try.checked) own started (by kernel_rfl) Try.func6
    (ChangeSpec.witness6 (enc := enc) (C := Try.checked) false ⟨#[], #[.agg #[.slice none 0 0], .int .i64 0, .int .i64 0], []⟩ 8 (by kernel_rfl) (by kernel_rfl) (by kernel_rfl) (by kernel_rfl)) ?_
  intro W base args ds gs before hval0 hW hcnd _
  have hval : ∀ (j : Nat) t v, Try.f6.params[j]? = some t → args[j]? = some v → Value.okWide Try.prog W .any base t v := hval0
  have hW' := hW
  obtain ⟨p, q, hA0, hV, rfl, hfz, hnd⟩ := hW
  have hA : DataW.TrodAll enc Try.prog W 0 (fun _ => true) true Try.f6.params.toList args.toList ds p := hA0
  rw [Try.params6] at hA hval
  obtain ⟨v0, vs0, d0, ds0, p0, q0, hargs, rfl, rfl, h0, r0⟩ := trodAll_cons hA
  obtain ⟨v1, vs1, d1, ds1, p1, q1, rfl, rfl, rfl, h1, r1⟩ := trodAll_cons r0
  obtain ⟨v2, vs2, d2, ds2, p2, q2, rfl, rfl, rfl, h2, r2⟩ := trodAll_cons r1
  obtain ⟨rfl, rfl, rfl⟩ := trodAll_nil r2
  obtain rfl : args = #[v0, v1, v2] := by cases args; simp_all
  obtain ⟨rfl, rfl⟩ := trodVars_none hV
  have k0 := h0
  have lt0 : ∀ x ∈ p0, x.block < W.heap.size := by obtain ⟨m, hm⟩ := k0; exact DataW.trod_lt m _ _ _ hm
  obtain ⟨a0, l0, cap0, rfl, hr0, hl0⟩ := open_group (hval 0 52 v0 rfl rfl) h0
  obtain ⟨i1, rfl, rfl, rfl, w1⟩ := open_int Try.underlying3 (hval 1 3 v1 rfl rfl) h1
  obtain ⟨i2, rfl, rfl, rfl, w2⟩ := open_int Try.underlying3 (hval 2 3 v2 rfl rfl) h2
  clear hA0 hval0
  refine (walk a0 cap0 l0 i1 i2 W hl0 hr0).mono fun e W' ⟨he, bel⟩ => ?_
  subst he
  exact ⟨_, rfl, _, _, _, [], _, [], hW', trodAll_mk1 (shut_bool Try.underlying4 _), (trodAll_cons_mk (Below.trod laidOut (by kernel_rfl) (of_decide_eq_true (by kernel_rfl)) k0 bel lt0) (trodAll_cons_mk (shut_int Try.underlying3 w1) (trodAll_cons_mk (shut_int Try.underlying3 w2) trodAll_mk0))), rfl, bel.frame _, fun h => by cases h⟩

theorem over : Rows.fnExactIsZeroCoefficientRow.holds Try.pinned (OpenSpec.ofChange Rows.fnExactIsZeroCoefficientSpec) :=
  OpenClaim.holds_of_wide 6 Try.f6 rfl rfl rfl rfl rfl rfl rfl ⟨rfl, rfl, rfl, rfl, rfl⟩ rfl rfl rfl rfl rfl (by kernel_rfl) Try.func6 (by kernel_rfl)
    (of_decide_eq_true (by kernel_rfl)) (by unfold Func.isWrapper; first | (rw [if_pos (by decide +kernel)]; kernel_rfl) | (rw [if_neg (by decide +kernel)]; exact ⟨rfl, rfl⟩))
    (fun os started H enc _ => lifted os started H enc)

theorem proved : Rows.FnExactIsZeroCoefficientSaid := over
#print axioms proved
end Go.Proofs.Ytpflnmcecnbilaa.lawIsZeroCoefficient
