/-
  Proved: FnExactBoxOf returns true for all arguments, and leaves them as they were.
  Conditions: none.
-/
import Derived.Test.YtickcopllojchaaLaw4
import Derived.Test.YtickcopllojchaaLift
import Derived.Test.YtickcopllojchaaBoxOf2
namespace Go.Proofs.Ytickcopllojchaa.lawBoxOf
open Go.ChangeShapes Go.WideShapes Go.ChangeAt Go.RowKit

set_option maxHeartbeats 1000000 in
theorem walk (a0 : Option Addr) (cap0 : Nat) (l0 : List Int) (a1 : Option Addr) (cap1 : Nat) (l1 : List Int) (a2 : Option Addr) (cap2 : Nat) (l2 : List Int) (w : World) (hl0 : l0.length ≤ 9223372036854775807) (hr0 : RowV w a0 l0) (hl1 : l1.length ≤ 9223372036854775807) (hr1 : RowV w a1 l1) (hl2 : l2.length ≤ 9223372036854775807) (hr2 : RowV w a2 l2) :
    Calls Try.prog 7 #[.agg #[.slice a0 l0.length cap0], .slice a1 l1.length cap1, .slice a2 l2.length cap2] w fun e w' => e = .returned (.bool true) ∧ Below w.heap.size w w' := by
  have hv0 : Liv w [] [(a0, l0), (a1, l1), (a2, l2)] [] w := Liv.init [(a0, l0), (a1, l1), (a2, l2)] (by intro p hp; simp only [List.mem_cons, List.not_mem_nil, or_false] at hp; rcases hp with rfl | rfl | rfl <;> assumption)
  have hv0 := hv0.box 28 (.slice a0 l0.length cap0)
  by_cases hn1 : l1.length ≤ 1048576
  · skip
    by_cases hn2 : l2.length ≤ 1048576
    · skip
      by_cases hn0 : l0.length ≤ 1048576
      · skip
        have hsz := szv_yes hn0
        have heq0 := hid (eqL_refl l0)
        have heq1 := hid (eqL_refl l1)
        have heq2 := hid (eqL_refl l2)
        go_enter Try.func7, Try.ntmps7
        have hbx0 := hv0.cell (k := w.heap.size) (v := .slice a0 l0.length cap0) (by simp)
        go_wp2_with fail
        refine (szGroup_any _ _ _ _ hl0).mono ?_; rintro e w1 ⟨rfl, hb1⟩; have hv1 := hv0.step hb1
        clear hbx0
        clear hv0 hb1
        have hbx0 := hv1.cell (k := w.heap.size) (v := .slice a0 l0.length cap0) (by simp)
        go_wp2_with fail
        refine (toGroup_any _ _ _ _ hn0 (hv1.row (by simp))).mono ?_; rintro e w2 ⟨g2, c2, rfl, hm2⟩; have hv2 := hv1.own hm2
        clear hbx0
        clear hv1 hm2
        have hbx0 := hv2.cell (k := w.heap.size) (v := .slice a0 l0.length cap0) (by simp)
        go_wp2_with fail
        refine (toIntS_any _ _ _ _ hn1 (hv2.row (by simp))).mono ?_; rintro e w3 ⟨g3, c3, rfl, hm3⟩; have hv3 := hv2.own hm3
        clear hbx0
        clear hv2 hm3
        have hbx0 := hv3.cell (k := w.heap.size) (v := .slice a0 l0.length cap0) (by simp)
        go_wp2_with fail
        refine (toIntS_any _ _ _ _ hn2 (hv3.row (by simp))).mono ?_; rintro e w4 ⟨g4, c4, rfl, hm4⟩; have hv4 := hv3.own hm4
        clear hbx0
        clear hv3 hm4
        have hbx0 := hv4.cell (k := w.heap.size) (v := .slice a0 l0.length cap0) (by simp)
        go_wp2_with fail
        refine (sBoxOf_any _ _ _ _ _ _ _ _ _ _ _ (by omega) (by omega) (by omega) (hv4.grp (g := g2) (c := c2) (by simp)) (hv4.grp (g := g3) (c := c3) (by simp)) (hv4.grp (g := g4) (c := c4) (by simp))).mono ?_; rintro e w5 ⟨rfl, hb5⟩; have hv5 := hv4.step hb5
        clear hbx0
        clear hv4 hb5
        have hbx0 := hv5.cell (k := w.heap.size) (v := .slice a0 l0.length cap0) (by simp)
        go_wp2_with fail
        refine (toGroup_any _ _ _ _ hn0 (hv5.row (by simp))).mono ?_; rintro e w6 ⟨g6, c6, rfl, hm6⟩; have hv6 := hv5.own hm6
        clear hbx0
        clear hv5 hm6
        have hx6 := hv6.box 32 (.slice (some ⟨g6, 0, none⟩) l0.length c6)
        clear hv6
        have hbx0 := hx6.cell (k := w6.heap.size) (v := .slice (some ⟨g6, 0, none⟩) l0.length c6) (by simp)
        have hbx1 := hx6.cell (k := w.heap.size) (v := .slice a0 l0.length cap0) (by simp)
        go_wp2_with fail
        refine (toIntS_any _ _ _ _ hn1 (hx6.row (by simp))).mono ?_; rintro e w7 ⟨g7, c7, rfl, hm7⟩; have hv7 := hx6.own hm7
        clear hbx0 hbx1
        clear hx6 hm7
        have hbx0 := hv7.cell (k := w6.heap.size) (v := .slice (some ⟨g6, 0, none⟩) l0.length c6) (by simp)
        have hbx1 := hv7.cell (k := w.heap.size) (v := .slice a0 l0.length cap0) (by simp)
        go_wp2_with fail
        refine (toIntS_any _ _ _ _ hn2 (hv7.row (by simp))).mono ?_; rintro e w8 ⟨g8, c8, rfl, hm8⟩; have hv8 := hv7.own hm8
        clear hbx0 hbx1
        clear hv7 hm8
        have hbx0 := hv8.cell (k := w6.heap.size) (v := .slice (some ⟨g6, 0, none⟩) l0.length c6) (by simp)
        have hbx1 := hv8.cell (k := w.heap.size) (v := .slice a0 l0.length cap0) (by simp)
        go_wp2_with fail
        refine (boxOf_any _ _ _ _ _ _ _ _ _ _ _ (by omega) (by omega) (by omega) (hv8.grp (g := g6) (c := c6) (by simp)) (hv8.grp (g := g7) (c := c7) (by simp)) (hv8.grp (g := g8) (c := c8) (by simp))).mono ?_; rintro e w9 ⟨rfl, hb9⟩; have hv9 := hv8.step hb9
        clear hbx0 hbx1
        clear hv8 hb9
        have hvd := (hv9.drew).hold (k := w.heap.size) (j := w6.heap.size) (u := .slice a0 l0.length cap0) (v := .slice (some ⟨g6, 0, none⟩) l0.length c6) (by simp) (by simp)
        clear hv9
        go_wp2
        go_region_held3 (fun w' => w'.cell? ⟨w.heap.size, 0, none⟩ = some (.slice a0 l0.length cap0) ∧ w'.cell? ⟨w6.heap.size, 0, none⟩ = some (.slice (some ⟨g6, 0, none⟩) l0.length c6) ∧ Liv w [(w6.heap.size, .slice (some ⟨g6, 0, none⟩) l0.length c6), (w.heap.size, .slice a0 l0.length cap0)] [(a0, l0), (a1, l1), (a2, l2)] [(g8, c8, l2), (g7, c7, l1), (g6, c6, l0), (g4, c4, l2), (g3, c3, l1), (g2, c2, l0)] w') (first | exact hvd | exact Liv.keep (by assumption) hb11 (by simp) (by simp) | exact Liv.keep (by assumption) hm10.below (by simp) (by simp))
          (first | (go_at_call 25; refine (toGroup_any _ _ _ _ hn0 (Liv.row (And.right (And.right (by assumption))) (by simp))).mono ?_; rintro e w10 ⟨g10, c10, rfl, hm10⟩; have hg10 := hm10.grp) | (go_at_call 27; refine (eqGroup_any _ _ _ _ _ _ _ _ _ hn0 hn0 (Liv.grp (And.right (And.right (by assumption))) (g := g6) (c := c6) (by simp)) (by assumption)).mono ?_; rintro e w11 ⟨rfl, hb11⟩; rw [heq0.out]))
        have hv11 : Liv w [(w6.heap.size, .slice (some ⟨g6, 0, none⟩) l0.length c6), (w.heap.size, .slice a0 l0.length cap0)] [(a0, l0), (a1, l1), (a2, l2)] [(g8, c8, l2), (g7, c7, l1), (g6, c6, l0), (g4, c4, l2), (g3, c3, l1), (g2, c2, l0)] w11 := And.right (And.right (by assumption))
        clear hvd
        have hbx0 := hv11.cell (k := w6.heap.size) (v := .slice (some ⟨g6, 0, none⟩) l0.length c6) (by simp)
        have hbx1 := hv11.cell (k := w.heap.size) (v := .slice a0 l0.length cap0) (by simp)
        go_wp2_with fail
        refine (toIntS_any _ _ _ _ hn1 (hv11.row (by simp))).mono ?_; rintro e w12 ⟨g12, c12, rfl, hm12⟩; have hv12 := hv11.own hm12
        clear hbx0 hbx1
        clear hv11 hm12
        have hbx0 := hv12.cell (k := w6.heap.size) (v := .slice (some ⟨g6, 0, none⟩) l0.length c6) (by simp)
        have hbx1 := hv12.cell (k := w.heap.size) (v := .slice a0 l0.length cap0) (by simp)
        go_wp2_with fail
        refine (eqIntS_any _ _ _ _ _ _ _ _ _ hn1 hn1 (hv12.grp (g := g7) (c := c7) (by simp)) (hv12.grp (g := g12) (c := c12) (by simp))).mono ?_; rintro e w13 ⟨rfl, hb13⟩; rw [heq1.out]; have hv13 := hv12.step hb13
        clear hbx0 hbx1
        clear hv12 hb13
        have hbx0 := hv13.cell (k := w6.heap.size) (v := .slice (some ⟨g6, 0, none⟩) l0.length c6) (by simp)
        have hbx1 := hv13.cell (k := w.heap.size) (v := .slice a0 l0.length cap0) (by simp)
        go_wp2_with fail
        refine (toIntS_any _ _ _ _ hn2 (hv13.row (by simp))).mono ?_; rintro e w14 ⟨g14, c14, rfl, hm14⟩; have hv14 := hv13.own hm14
        clear hbx0 hbx1
        clear hv13 hm14
        have hbx0 := hv14.cell (k := w6.heap.size) (v := .slice (some ⟨g6, 0, none⟩) l0.length c6) (by simp)
        have hbx1 := hv14.cell (k := w.heap.size) (v := .slice a0 l0.length cap0) (by simp)
        go_wp2_with fail
        refine (eqIntS_any _ _ _ _ _ _ _ _ _ hn2 hn2 (hv14.grp (g := g8) (c := c8) (by simp)) (hv14.grp (g := g14) (c := c14) (by simp))).mono ?_; rintro e w15 ⟨rfl, hb15⟩; rw [heq2.out]; have hv15 := hv14.step hb15
        clear hbx0 hbx1
        clear hv14 hb15
        go_wp2
        go_ret
        exact ⟨rfl, hv15.below⟩
      · have hx : ¬ l0.length ≤ 1048576 := hn0
        have hsz := szv_no hn0
        go_enter Try.func7, Try.ntmps7
        go_wp2_with fail
        refine (szGroup_any _ _ _ _ hl0).mono ?_; rintro e w1 ⟨rfl, hb1⟩; have hv1 := hv0.step hb1
        go_wp2
        go_ret
        exact ⟨rfl, hv1.below⟩
    · have hx : ¬ l2.length ≤ 1048576 := hn2
      go_enter Try.func7, Try.ntmps7
      go_wp2
      go_ret
      exact ⟨rfl, hv0.below⟩
  · have hx : ¬ l1.length ≤ 1048576 := hn1
    go_enter Try.func7, Try.ntmps7
    go_wp2
    go_ret
    exact ⟨rfl, hv0.below⟩
set_option linter.unusedVariables false in
set_option maxRecDepth 100000 in
set_option maxHeartbeats 2000000 in
theorem lifted (os : Os) (started : os.Started) (H : Type) (enc : TypeId × Value → H) :
    ReturnsInHanded {} Try.checked os 7 .any (Rows.fnExactBoxOfSpec.pre6 enc Try.prog Try.f7 Rows.fnExactBoxOfRow.domain false) (Rows.fnExactBoxOfSpec.post enc Try.prog Try.f7 false true false false) := by
  refine returnsInHanded_of_change (C := Try.checked) own started (by kernel_rfl) Try.func7
    (ChangeSpec.witness6 (enc := enc) (C := Try.checked) false ⟨#[], #[.agg #[.slice none 0 0], .slice none 0 0, .slice none 0 0], []⟩ 8 (by kernel_rfl) (by kernel_rfl) (by kernel_rfl) (by kernel_rfl)) ?_
  intro W base args ds gs before hval0 hW hcnd _
  have hval : ∀ (j : Nat) t v, Try.f7.params[j]? = some t → args[j]? = some v → Value.okWide Try.prog W .any base t v := hval0
  have hW' := hW
  obtain ⟨p, q, hA0, hV, rfl, hfz, hnd⟩ := hW
  have hA : DataW.TrodAll enc Try.prog W 0 (fun _ => true) true Try.f7.params.toList args.toList ds p := hA0
  rw [Try.params7] at hA hval
  obtain ⟨v0, vs0, d0, ds0, p0, q0, hargs, rfl, rfl, h0, r0⟩ := trodAll_cons hA
  obtain ⟨v1, vs1, d1, ds1, p1, q1, rfl, rfl, rfl, h1, r1⟩ := trodAll_cons r0
  obtain ⟨v2, vs2, d2, ds2, p2, q2, rfl, rfl, rfl, h2, r2⟩ := trodAll_cons r1
  obtain ⟨rfl, rfl, rfl⟩ := trodAll_nil r2
  obtain rfl : args = #[v0, v1, v2] := by cases args; simp_all
  obtain ⟨rfl, rfl⟩ := trodVars_none hV
  have k0 := h0
  have lt0 : ∀ x ∈ p0, x.block < W.heap.size := by obtain ⟨m, hm⟩ := k0; exact DataW.trod_lt m _ _ _ hm
  obtain ⟨a0, l0, cap0, rfl, hr0, hl0⟩ := open_group (hval 0 28 v0 rfl rfl) h0
  have k1 := h1
  have lt1 : ∀ x ∈ p1, x.block < W.heap.size := by obtain ⟨m, hm⟩ := k1; exact DataW.trod_lt m _ _ _ hm
  obtain ⟨x1, n1, m1, rfl⟩ := okWide_slice Try.underlying22 (hval 1 22 v1 rfl rfl)
  obtain ⟨fu1, hf1⟩ := h1
  obtain ⟨a1, l1, cap1, e1, hr1, hl1⟩ := open_row (by simpa [Value.cells] using hf1)
  simp only [Value.slice.injEq] at e1
  obtain ⟨rfl, rfl, rfl⟩ := e1
  have k2 := h2
  have lt2 : ∀ x ∈ p2, x.block < W.heap.size := by obtain ⟨m, hm⟩ := k2; exact DataW.trod_lt m _ _ _ hm
  obtain ⟨x2, n2, m2, rfl⟩ := okWide_slice Try.underlying22 (hval 2 22 v2 rfl rfl)
  obtain ⟨fu2, hf2⟩ := h2
  obtain ⟨a2, l2, cap2, e2, hr2, hl2⟩ := open_row (by simpa [Value.cells] using hf2)
  simp only [Value.slice.injEq] at e2
  obtain ⟨rfl, rfl, rfl⟩ := e2
  clear hA0 hval0
  refine (walk a0 cap0 l0 x1 m1 l1 x2 m2 l2 W hl0 hr0 hl1 hr1 hl2 hr2).mono fun e W' ⟨he, bel⟩ => ?_
  subst he
  exact ⟨_, rfl, _, _, _, [], _, [], hW', trodAll_mk1 (shut_bool Try.underlying4 _), (trodAll_cons_mk (Below.trod laidOut (by kernel_rfl) (of_decide_eq_true (by kernel_rfl)) k0 bel lt0) (trodAll_cons_mk (Below.trod laidOut (by kernel_rfl) (of_decide_eq_true (by kernel_rfl)) k1 bel lt1) (trodAll_cons_mk (Below.trod laidOut (by kernel_rfl) (of_decide_eq_true (by kernel_rfl)) k2 bel lt2) trodAll_mk0))), rfl, bel.frame _, fun h => by cases h⟩

theorem over : Rows.fnExactBoxOfRow.holds Try.pinned (OpenSpec.ofChange Rows.fnExactBoxOfSpec) :=
  OpenClaim.holds_of_wide 7 Try.f7 rfl rfl rfl rfl rfl rfl rfl ⟨rfl, rfl, rfl, rfl, rfl⟩ rfl rfl rfl rfl rfl (by kernel_rfl) Try.func7 (by kernel_rfl)
    (of_decide_eq_true (by kernel_rfl)) (by unfold Func.isWrapper; first | (rw [if_pos (by decide +kernel)]; kernel_rfl) | (rw [if_neg (by decide +kernel)]; exact ⟨rfl, rfl⟩))
    (fun os started H enc _ => lifted os started H enc)

theorem proved : Rows.FnExactBoxOfSaid := over
#print axioms proved
end Go.Proofs.Ytickcopllojchaa.lawBoxOf
