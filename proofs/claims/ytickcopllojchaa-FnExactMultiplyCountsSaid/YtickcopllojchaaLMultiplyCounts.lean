/-
  Proved: FnExactMultiplyCounts returns true for all arguments, and leaves them as they were.
  Conditions: none.
-/
import Derived.Test.YtickcopllojchaaLaw4
import Derived.Test.YtickcopllojchaaLift
import Derived.Test.YtickcopllojchaaMulC
import Derived.Test.YtickcopllojchaaMulC2
namespace Go.Proofs.Ytickcopllojchaa.lawMultiplyCounts
open Go.ChangeShapes Go.WideShapes Go.ChangeAt Go.RowKit

set_option maxHeartbeats 1000000 in
theorem walk (a0 : Option Addr) (cap0 : Nat) (l0 : List Int) (a1 : Option Addr) (cap1 : Nat) (l1 : List Int) (w : World) (hl0 : l0.length ≤ 9223372036854775807) (hr0 : RowV w a0 l0) (hl1 : l1.length ≤ 9223372036854775807) (hr1 : RowV w a1 l1) :
    Calls Try.prog 4 #[.slice a0 l0.length cap0, .slice a1 l1.length cap1] w fun e w' => e = .returned (.bool true) ∧ Below w.heap.size w w' := by
  have hv0 : Liv w [] [(a0, l0), (a1, l1)] [] w := Liv.init [(a0, l0), (a1, l1)] (by intro p hp; simp only [List.mem_cons, List.not_mem_nil, or_false] at hp; rcases hp with rfl | rfl <;> assumption)
  by_cases hn0 : l0.length ≤ 1048576
  · skip
    by_cases hn1 : l1.length ≤ 1048576
    · skip
      have heq0 := hid (eqL_refl l0)
      have heq1 := hid (eqL_refl l1)
      have hrl := hid (mulF_len l0 l1)
      generalize hR : mulF l0 l1 = R at hrl
      have hR := hid hR
      have heqR := hid (eqL_refl R)
      go_enter Try.func4, Try.ntmps4
      go_wp2_with fail
      refine (toIntS_any _ _ _ _ hn0 (hv0.row (by simp))).mono ?_; rintro e w1 ⟨g1, c1, rfl, hm1⟩; have hv1 := hv0.own hm1
      clear hv0 hm1
      go_wp2_with fail
      refine (toIntS_any _ _ _ _ hn1 (hv1.row (by simp))).mono ?_; rintro e w2 ⟨g2, c2, rfl, hm2⟩; have hv2 := hv1.own hm2
      clear hv1 hm2
      go_wp2_with fail
      refine (sMultiplyCounts_any _ _ _ _ _ _ _ (by omega) (by omega) (hv2.grp (g := g1) (c := c1) (by simp)) (hv2.grp (g := g2) (c := c2) (by simp))).mono ?_; rintro e w3 ⟨g3, c3, rfl, hm3⟩; rw [hR.out] at hm3 ⊢; have hv3 := hv2.own hm3
      clear hv2 hm3
      go_wp2_with fail
      refine (toIntS_any _ _ _ _ hn0 (hv3.row (by simp))).mono ?_; rintro e w4 ⟨g4, c4, rfl, hm4⟩; have hv4 := hv3.own hm4
      clear hv3 hm4
      go_wp2_with fail
      refine (toIntS_any _ _ _ _ hn1 (hv4.row (by simp))).mono ?_; rintro e w5 ⟨g5, c5, rfl, hm5⟩; have hv5 := hv4.own hm5
      clear hv4 hm5
      go_wp2_with fail
      refine (multiplyCounts_any _ _ _ _ _ _ _ (by omega) (by omega) (hv5.grp (g := g4) (c := c4) (by simp)) (hv5.grp (g := g5) (c := c5) (by simp))).mono ?_; rintro e w6 ⟨g6, c6, rfl, hm6⟩; rw [hR.out] at hm6 ⊢; have hv6 := hv5.own hm6
      clear hv5 hm6
      go_wp2_with fail
      refine (eqIntS_any _ _ _ _ _ _ _ _ _ hrl.out hrl.out (hv6.grp (g := g6) (c := c6) (by simp)) (hv6.grp (g := g3) (c := c3) (by simp))).mono ?_; rintro e w7 ⟨rfl, hb7⟩; rw [heqR.out]; have hv7 := hv6.step hb7
      clear hv6 hb7
      go_wp2_with fail
      refine (toIntS_any _ _ _ _ hn0 (hv7.row (by simp))).mono ?_; rintro e w8 ⟨g8, c8, rfl, hm8⟩; have hv8 := hv7.own hm8
      clear hv7 hm8
      go_wp2_with fail
      refine (eqIntS_any _ _ _ _ _ _ _ _ _ hn0 hn0 (hv8.grp (g := g4) (c := c4) (by simp)) (hv8.grp (g := g8) (c := c8) (by simp))).mono ?_; rintro e w9 ⟨rfl, hb9⟩; rw [heq0.out]; have hv9 := hv8.step hb9
      clear hv8 hb9
      go_wp2_with fail
      refine (toIntS_any _ _ _ _ hn1 (hv9.row (by simp))).mono ?_; rintro e w10 ⟨g10, c10, rfl, hm10⟩; have hv10 := hv9.own hm10
      clear hv9 hm10
      go_wp2_with fail
      refine (eqIntS_any _ _ _ _ _ _ _ _ _ hn1 hn1 (hv10.grp (g := g5) (c := c5) (by simp)) (hv10.grp (g := g10) (c := c10) (by simp))).mono ?_; rintro e w11 ⟨rfl, hb11⟩; rw [heq1.out]; have hv11 := hv10.step hb11
      clear hv10 hb11
      go_wp2_with fail
      obtain ⟨B12, ho12⟩ := hv11.ownAt (g := g4) (c := c4) (l := l0) (by simp); refine (markIntS_any B12 g4 c4 (1) l0 _ hn0 (by omega) ho12).mono ?_; rintro e w12 ⟨rfl, hm12, hgr12⟩; have hv12 := Liv.mark (O1 := [(g10, c10, l1), (g8, c8, l0), (g6, c6, R), (g5, c5, l1)]) (O2 := [(g3, c3, R), (g2, c2, l1), (g1, c1, l0)]) hv11 hm12 hgr12
      have hv12 : Liv w [] [(a0, l0), (a1, l1)] [(g10, c10, l1), (g8, c8, l0), (g6, c6, R), (g5, c5, l1), (g4, c4, marks (1) l0.length), (g3, c3, R), (g2, c2, l1), (g1, c1, l0)] w12 := hv12
      clear hv11 hgr12 ho12 hm12
      go_wp2_with fail
      obtain ⟨B13, ho13⟩ := hv12.ownAt (g := g5) (c := c5) (l := l1) (by simp); refine (markIntS_any B13 g5 c5 (1 + l0.length) l1 _ hn1 (by omega) ho13).mono ?_; rintro e w13 ⟨rfl, hm13, hgr13⟩; have hv13 := Liv.mark (O1 := [(g10, c10, l1), (g8, c8, l0), (g6, c6, R)]) (O2 := [(g4, c4, marks (1) l0.length), (g3, c3, R), (g2, c2, l1), (g1, c1, l0)]) hv12 hm13 hgr13
      have hv13 : Liv w [] [(a0, l0), (a1, l1)] [(g10, c10, l1), (g8, c8, l0), (g6, c6, R), (g5, c5, marks (1 + l0.length) l1.length), (g4, c4, marks (1) l0.length), (g3, c3, R), (g2, c2, l1), (g1, c1, l0)] w13 := hv13
      clear hv12 hgr13 ho13 hm13
      go_wp2_with fail
      refine (eqIntS_any _ _ _ _ _ _ _ _ _ hrl.out hrl.out (hv13.grp (g := g6) (c := c6) (by simp)) (hv13.grp (g := g3) (c := c3) (by simp))).mono ?_; rintro e w14 ⟨rfl, hb14⟩; rw [heqR.out]; have hv14 := hv13.step hb14
      clear hv13 hb14
      go_wp2_with fail
      obtain ⟨B15, ho15⟩ := hv14.ownAt (g := g6) (c := c6) (l := R) (by simp); refine (markIntS_any B15 g6 c6 (1) R _ hrl.out (by omega) ho15).mono ?_; rintro e w15 ⟨rfl, hm15, hgr15⟩; have hv15 := Liv.mark (O1 := [(g10, c10, l1), (g8, c8, l0)]) (O2 := [(g5, c5, marks (1 + l0.length) l1.length), (g4, c4, marks (1) l0.length), (g3, c3, R), (g2, c2, l1), (g1, c1, l0)]) hv14 hm15 hgr15
      have hv15 : Liv w [] [(a0, l0), (a1, l1)] [(g10, c10, l1), (g8, c8, l0), (g6, c6, marks (1) R.length), (g5, c5, marks (1 + l0.length) l1.length), (g4, c4, marks (1) l0.length), (g3, c3, R), (g2, c2, l1), (g1, c1, l0)] w15 := hv15
      clear hv14 hgr15 ho15 hm15
      go_wp2_with fail
      obtain ⟨B16, ho16⟩ := hv15.ownAt (g := g6) (c := c6) (l := marks 1 R.length) (by simp); refine (heldIntS_any B16 _ _ 1 R.length _ hrl.out (by omega) ho16).mono ?_; rintro e w16 ⟨rfl, rfl⟩; clear ho16
      go_wp2_with fail
      refine (toIntS_any _ _ _ _ hn0 (hv15.row (by simp))).mono ?_; rintro e w17 ⟨g17, c17, rfl, hm17⟩; have hv17 := hv15.own hm17
      clear hv15 hm17
      go_wp2_with fail
      refine (toIntS_any _ _ _ _ hn1 (hv17.row (by simp))).mono ?_; rintro e w18 ⟨g18, c18, rfl, hm18⟩; have hv18 := hv17.own hm18
      clear hv17 hm18
      go_wp2_with fail
      refine (multiplyCounts_any _ _ _ _ _ _ _ (by omega) (by omega) (hv18.grp (g := g17) (c := c17) (by simp)) (hv18.grp (g := g18) (c := c18) (by simp))).mono ?_; rintro e w19 ⟨g19, c19, rfl, hm19⟩; rw [hR.out] at hm19 ⊢; have hv19 := hv18.own hm19
      clear hv18 hm19
      go_wp2_with fail
      refine (eqIntS_any _ _ _ _ _ _ _ _ _ hrl.out hrl.out (hv19.grp (g := g19) (c := c19) (by simp)) (hv19.grp (g := g3) (c := c3) (by simp))).mono ?_; rintro e w20 ⟨rfl, hb20⟩; rw [heqR.out]; have hv20 := hv19.step hb20
      clear hv19 hb20
      go_wp2_with fail
      obtain ⟨B21, ho21⟩ := hv20.ownAt (g := g6) (c := c6) (l := marks 1 R.length) (by simp); refine (heldIntS_any B21 _ _ 1 R.length _ hrl.out (by omega) ho21).mono ?_; rintro e w21 ⟨rfl, rfl⟩; clear ho21
      go_wp2
      go_ret
      exact ⟨rfl, hv20.below⟩
    · have hx : ¬ l1.length ≤ 1048576 := hn1
      go_enter Try.func4, Try.ntmps4
      go_wp2
      go_ret
      exact ⟨rfl, hv0.below⟩
  · have hx : ¬ l0.length ≤ 1048576 := hn0
    go_enter Try.func4, Try.ntmps4
    go_wp2
    go_ret
    exact ⟨rfl, hv0.below⟩
set_option linter.unusedVariables false in
set_option maxRecDepth 100000 in
set_option maxHeartbeats 2000000 in
theorem lifted (os : Os) (started : os.Started) (H : Type) (enc : TypeId × Value → H) :
    ReturnsInHanded {} Try.checked os 4 .any (Rows.fnExactMultiplyCountsSpec.pre6 enc Try.prog Try.f4 Rows.fnExactMultiplyCountsRow.domain false) (Rows.fnExactMultiplyCountsSpec.post enc Try.prog Try.f4 false true false false) := by
  refine returnsInHanded_of_change (C := Try.checked) own started (by kernel_rfl) Try.func4
    (ChangeSpec.witness6 (enc := enc) (C := Try.checked) false ⟨#[], #[.slice none 0 0, .slice none 0 0], []⟩ 8 (by kernel_rfl) (by kernel_rfl) (by kernel_rfl) (by kernel_rfl)) ?_
  intro W base args ds gs before hval0 hW hcnd _
  have hval : ∀ (j : Nat) t v, Try.f4.params[j]? = some t → args[j]? = some v → Value.okWide Try.prog W .any base t v := hval0
  have hW' := hW
  obtain ⟨p, q, hA0, hV, rfl, hfz, hnd⟩ := hW
  have hA : DataW.TrodAll enc Try.prog W 0 (fun _ => true) true Try.f4.params.toList args.toList ds p := hA0
  rw [Try.params4] at hA hval
  obtain ⟨v0, vs0, d0, ds0, p0, q0, hargs, rfl, rfl, h0, r0⟩ := trodAll_cons hA
  obtain ⟨v1, vs1, d1, ds1, p1, q1, rfl, rfl, rfl, h1, r1⟩ := trodAll_cons r0
  obtain ⟨rfl, rfl, rfl⟩ := trodAll_nil r1
  obtain rfl : args = #[v0, v1] := by cases args; simp_all
  obtain ⟨rfl, rfl⟩ := trodVars_none hV
  have k0 := h0
  have lt0 : ∀ x ∈ p0, x.block < W.heap.size := by obtain ⟨m, hm⟩ := k0; exact DataW.trod_lt m _ _ _ hm
  obtain ⟨x0, n0, m0, rfl⟩ := okWide_slice Try.underlying22 (hval 0 22 v0 rfl rfl)
  obtain ⟨fu0, hf0⟩ := h0
  obtain ⟨a0, l0, cap0, e0, hr0, hl0⟩ := open_row (by simpa [Value.cells] using hf0)
  simp only [Value.slice.injEq] at e0
  obtain ⟨rfl, rfl, rfl⟩ := e0
  have k1 := h1
  have lt1 : ∀ x ∈ p1, x.block < W.heap.size := by obtain ⟨m, hm⟩ := k1; exact DataW.trod_lt m _ _ _ hm
  obtain ⟨x1, n1, m1, rfl⟩ := okWide_slice Try.underlying22 (hval 1 22 v1 rfl rfl)
  obtain ⟨fu1, hf1⟩ := h1
  obtain ⟨a1, l1, cap1, e1, hr1, hl1⟩ := open_row (by simpa [Value.cells] using hf1)
  simp only [Value.slice.injEq] at e1
  obtain ⟨rfl, rfl, rfl⟩ := e1
  clear hA0 hval0
  refine (walk x0 m0 l0 x1 m1 l1 W hl0 hr0 hl1 hr1).mono fun e W' ⟨he, bel⟩ => ?_
  subst he
  exact ⟨_, rfl, _, _, _, [], _, [], hW', trodAll_mk1 (shut_bool Try.underlying4 _), (trodAll_cons_mk (Below.trod laidOut (by kernel_rfl) (of_decide_eq_true (by kernel_rfl)) k0 bel lt0) (trodAll_cons_mk (Below.trod laidOut (by kernel_rfl) (of_decide_eq_true (by kernel_rfl)) k1 bel lt1) trodAll_mk0)), rfl, bel.frame _, fun h => by cases h⟩

theorem over : Rows.fnExactMultiplyCountsRow.holds Try.pinned (OpenSpec.ofChange Rows.fnExactMultiplyCountsSpec) :=
  OpenClaim.holds_of_wide 4 Try.f4 rfl rfl rfl rfl rfl rfl rfl ⟨rfl, rfl, rfl, rfl, rfl⟩ rfl rfl rfl rfl rfl (by kernel_rfl) Try.func4 (by kernel_rfl)
    (of_decide_eq_true (by kernel_rfl)) (by unfold Func.isWrapper; first | (rw [if_pos (by decide +kernel)]; kernel_rfl) | (rw [if_neg (by decide +kernel)]; exact ⟨rfl, rfl⟩))
    (fun os started H enc _ => lifted os started H enc)

theorem proved : Rows.FnExactMultiplyCountsSaid := over
#print axioms proved
end Go.Proofs.Ytickcopllojchaa.lawMultiplyCounts
