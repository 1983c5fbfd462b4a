/-
  Proved: FnExactQuotientSet returns true for all arguments, and leaves them as they were.
  Conditions: none.
-/
import Derived.Test.YtbhgifhhjaeibaaLaw4
import Derived.Test.YtbhgifhhjaeibaaLift
import Derived.Test.YtbhgifhhjaeibaaQuot
namespace Go.Proofs.Ytbhgifhhjaeibaa.lawQuotientSet
open Go.ChangeShapes Go.WideShapes Go.ChangeAt Go.RowKit

set_option maxHeartbeats 1000000 in
theorem walk (a0 : Option Addr) (cap0 : Nat) (l0 : List Int) (i1 : Int) (i2 : Int) (w : World) (hl0 : l0.length ≤ 9223372036854775807) (hr0 : RowV w a0 l0) :
    Calls Try.prog 4 #[.agg #[.slice a0 l0.length cap0], .int .i64 i1, .int .i64 i2] w fun e w' => e = .returned (.bool true) ∧ Below w.heap.size w w' := by
  have hv0 : Liv w [] [(a0, l0)] [] w := Liv.init [(a0, l0)] (by intro p hp; simp only [List.mem_cons, List.not_mem_nil, or_false] at hp; rcases hp with rfl <;> assumption)
  have hv0 := hv0.box 24 (.slice a0 l0.length cap0)
  by_cases hn0 : l0.length ≤ 1048576
  · skip
    have hsz := szv_yes hn0
    have heq0 := hid (eqL_refl l0)
    have hrl := hid (quF_len l0 i1 i2)
    generalize hR : quF l0 i1 i2 = R at hrl
    have hR := hid hR
    have heqR := hid (eqL_refl R)
    go_enter Try.func4, Try.ntmps4
    have hbx0 := hv0.cell (k := w.heap.size) (v := .slice a0 l0.length cap0) (by simp)
    go_wp2_with fail
    refine (szGroup_any _ _ _ _ hl0).mono ?_; rintro e w1 ⟨rfl, hb1⟩; have hv1 := hv0.step hb1
    clear hbx0
    clear hv0 hb1
    have hbx0 := hv1.cell (k := w.heap.size) (v := .slice a0 l0.length cap0) (by simp)
    go_wp2_with fail
    refine (toGroup_any _ _ _ _ hn0 (hv1.row (by simp))).mono ?_; rintro e w2 ⟨g2, c2, rfl, hm2⟩; have hv2 := hv1.own hm2
    clear hbx0
    clear hv1 hm2
    have hbx0 := hv2.cell (k := w.heap.size) (v := .slice a0 l0.length cap0) (by simp)
    go_wp2_with fail
    refine (sQuotientSet_any _ _ _ _ _ _ _ (by omega) (hv2.grp (g := g2) (c := c2) (by simp))).mono ?_; rintro e w3 ⟨g3, c3, rfl, hm3⟩; rw [hR.out] at hm3 ⊢; have hv3 := hv2.own hm3
    clear hbx0
    clear hv2 hm3
    have hbx0 := hv3.cell (k := w.heap.size) (v := .slice a0 l0.length cap0) (by simp)
    go_wp2_with fail
    refine (toGroup_any _ _ _ _ hn0 (hv3.row (by simp))).mono ?_; rintro e w4 ⟨g4, c4, rfl, hm4⟩; have hv4 := hv3.own hm4
    clear hbx0
    clear hv3 hm4
    have hx4 := hv4.box 27 (.slice (some ⟨g4, 0, none⟩) l0.length c4)
    clear hv4
    have hbx0 := hx4.cell (k := w4.heap.size) (v := .slice (some ⟨g4, 0, none⟩) l0.length c4) (by simp)
    have hbx1 := hx4.cell (k := w.heap.size) (v := .slice a0 l0.length cap0) (by simp)
    go_wp2_with fail
    refine (quotientSet_any _ _ _ _ _ _ _ (by omega) (hx4.grp (g := g4) (c := c4) (by simp))).mono ?_; rintro e w5 ⟨g5, c5, rfl, hm5⟩; rw [hR.out] at hm5 ⊢; have hv5 := hx4.own hm5
    clear hbx0 hbx1
    clear hx4 hm5
    have hbx0 := hv5.cell (k := w4.heap.size) (v := .slice (some ⟨g4, 0, none⟩) l0.length c4) (by simp)
    have hbx1 := hv5.cell (k := w.heap.size) (v := .slice a0 l0.length cap0) (by simp)
    go_wp2_with fail
    refine (eqIntS_any _ _ _ _ _ _ _ _ _ hrl.out hrl.out (hv5.grp (g := g5) (c := c5) (by simp)) (hv5.grp (g := g3) (c := c3) (by simp))).mono ?_; rintro e w6 ⟨rfl, hb6⟩; rw [heqR.out]; have hv6 := hv5.step hb6
    clear hbx0 hbx1
    clear hv5 hb6
    have hvd := (hv6.drew).hold (k := w.heap.size) (j := w4.heap.size) (u := .slice a0 l0.length cap0) (v := .slice (some ⟨g4, 0, none⟩) l0.length c4) (by simp) (by simp)
    clear hv6
    go_wp2
    go_region_held3 (fun w' => w'.cell? ⟨w.heap.size, 0, none⟩ = some (.slice a0 l0.length cap0) ∧ w'.cell? ⟨w4.heap.size, 0, none⟩ = some (.slice (some ⟨g4, 0, none⟩) l0.length c4) ∧ Liv w [(w4.heap.size, .slice (some ⟨g4, 0, none⟩) l0.length c4), (w.heap.size, .slice a0 l0.length cap0)] [(a0, l0)] [(g5, c5, R), (g4, c4, l0), (g3, c3, R), (g2, c2, l0)] w') (first | exact hvd | exact Liv.keep (by assumption) hb8 (by simp) (by simp) | exact Liv.keep (by assumption) hm7.below (by simp) (by simp))
      (first | (go_at_call 13; refine (toGroup_any _ _ _ _ hn0 (Liv.row (And.right (And.right (by assumption))) (by simp))).mono ?_; rintro e w7 ⟨g7, c7, rfl, hm7⟩; have hg7 := hm7.grp) | (go_at_call 15; refine (eqGroup_any _ _ _ _ _ _ _ _ _ hn0 hn0 (Liv.grp (And.right (And.right (by assumption))) (g := g4) (c := c4) (by simp)) (by assumption)).mono ?_; rintro e w8 ⟨rfl, hb8⟩; rw [heq0.out]))
    have hv8 : Liv w [(w4.heap.size, .slice (some ⟨g4, 0, none⟩) l0.length c4), (w.heap.size, .slice a0 l0.length cap0)] [(a0, l0)] [(g5, c5, R), (g4, c4, l0), (g3, c3, R), (g2, c2, l0)] w8 := And.right (And.right (by assumption))
    clear hvd
    have hbx0 := hv8.cell (k := w4.heap.size) (v := .slice (some ⟨g4, 0, none⟩) l0.length c4) (by simp)
    have hbx1 := hv8.cell (k := w.heap.size) (v := .slice a0 l0.length cap0) (by simp)
    go_wp2_with fail
    obtain ⟨B9, ho9⟩ := hv8.ownAt (g := g4) (c := c4) (l := l0) (by simp); refine (markGroup_any B9 g4 c4 (1) l0 _ hn0 (by omega) ho9).mono ?_; rintro e w9 ⟨rfl, hm9, hgr9⟩; have hv9 := Liv.mark (O1 := [(g5, c5, R)]) (O2 := [(g3, c3, R), (g2, c2, l0)]) hv8 hm9 hgr9
    have hv9 : Liv w [(w4.heap.size, .slice (some ⟨g4, 0, none⟩) l0.length c4), (w.heap.size, .slice a0 l0.length cap0)] [(a0, l0)] [(g5, c5, R), (g4, c4, marks (1) l0.length), (g3, c3, R), (g2, c2, l0)] w9 := hv9
    clear hbx0 hbx1
    clear hv8 hgr9 ho9 hm9
    have hbx0 := hv9.cell (k := w4.heap.size) (v := .slice (some ⟨g4, 0, none⟩) l0.length c4) (by simp)
    have hbx1 := hv9.cell (k := w.heap.size) (v := .slice a0 l0.length cap0) (by simp)
    go_wp2_with fail
    refine (eqIntS_any _ _ _ _ _ _ _ _ _ hrl.out hrl.out (hv9.grp (g := g5) (c := c5) (by simp)) (hv9.grp (g := g3) (c := c3) (by simp))).mono ?_; rintro e w10 ⟨rfl, hb10⟩; rw [heqR.out]; have hv10 := hv9.step hb10
    clear hbx0 hbx1
    clear hv9 hb10
    have hbx0 := hv10.cell (k := w4.heap.size) (v := .slice (some ⟨g4, 0, none⟩) l0.length c4) (by simp)
    have hbx1 := hv10.cell (k := w.heap.size) (v := .slice a0 l0.length cap0) (by simp)
    go_wp2_with fail
    obtain ⟨B11, ho11⟩ := hv10.ownAt (g := g5) (c := c5) (l := R) (by simp); refine (markIntS_any B11 g5 c5 (1) R _ hrl.out (by omega) ho11).mono ?_; rintro e w11 ⟨rfl, hm11, hgr11⟩; have hv11 := Liv.mark (O1 := []) (O2 := [(g4, c4, marks (1) l0.length), (g3, c3, R), (g2, c2, l0)]) hv10 hm11 hgr11
    have hv11 : Liv w [(w4.heap.size, .slice (some ⟨g4, 0, none⟩) l0.length c4), (w.heap.size, .slice a0 l0.length cap0)] [(a0, l0)] [(g5, c5, marks (1) R.length), (g4, c4, marks (1) l0.length), (g3, c3, R), (g2, c2, l0)] w11 := hv11
    clear hbx0 hbx1
    clear hv10 hgr11 ho11 hm11
    have hbx0 := hv11.cell (k := w4.heap.size) (v := .slice (some ⟨g4, 0, none⟩) l0.length c4) (by simp)
    have hbx1 := hv11.cell (k := w.heap.size) (v := .slice a0 l0.length cap0) (by simp)
    go_wp2_with fail
    obtain ⟨B12, ho12⟩ := hv11.ownAt (g := g5) (c := c5) (l := marks 1 R.length) (by simp); refine (heldIntS_any B12 _ _ 1 R.length _ hrl.out (by omega) ho12).mono ?_; rintro e w12 ⟨rfl, rfl⟩; clear ho12
    clear hbx0 hbx1
    have hbx0 := hv11.cell (k := w4.heap.size) (v := .slice (some ⟨g4, 0, none⟩) l0.length c4) (by simp)
    have hbx1 := hv11.cell (k := w.heap.size) (v := .slice a0 l0.length cap0) (by simp)
    go_wp2_with fail
    refine (toGroup_any _ _ _ _ hn0 (hv11.row (by simp))).mono ?_; rintro e w13 ⟨g13, c13, rfl, hm13⟩; have hv13 := hv11.own hm13
    clear hbx0 hbx1
    clear hv11 hm13
    have hbx0 := hv13.cell (k := w4.heap.size) (v := .slice (some ⟨g4, 0, none⟩) l0.length c4) (by simp)
    have hbx1 := hv13.cell (k := w.heap.size) (v := .slice a0 l0.length cap0) (by simp)
    go_wp2_with fail
    refine (quotientSet_any _ _ _ _ _ _ _ (by omega) (hv13.grp (g := g13) (c := c13) (by simp))).mono ?_; rintro e w14 ⟨g14, c14, rfl, hm14⟩; rw [hR.out] at hm14 ⊢; have hv14 := hv13.own hm14
    clear hbx0 hbx1
    clear hv13 hm14
    have hbx0 := hv14.cell (k := w4.heap.size) (v := .slice (some ⟨g4, 0, none⟩) l0.length c4) (by simp)
    have hbx1 := hv14.cell (k := w.heap.size) (v := .slice a0 l0.length cap0) (by simp)
    go_wp2_with fail
    refine (eqIntS_any _ _ _ _ _ _ _ _ _ hrl.out hrl.out (hv14.grp (g := g14) (c := c14) (by simp)) (hv14.grp (g := g3) (c := c3) (by simp))).mono ?_; rintro e w15 ⟨rfl, hb15⟩; rw [heqR.out]; have hv15 := hv14.step hb15
    clear hbx0 hbx1
    clear hv14 hb15
    have hbx0 := hv15.cell (k := w4.heap.size) (v := .slice (some ⟨g4, 0, none⟩) l0.length c4) (by simp)
    have hbx1 := hv15.cell (k := w.heap.size) (v := .slice a0 l0.length cap0) (by simp)
    go_wp2_with fail
    obtain ⟨B16, ho16⟩ := hv15.ownAt (g := g5) (c := c5) (l := marks 1 R.length) (by simp); refine (heldIntS_any B16 _ _ 1 R.length _ hrl.out (by omega) ho16).mono ?_; rintro e w16 ⟨rfl, rfl⟩; clear ho16
    clear hbx0 hbx1
    go_wp2
    go_ret
    exact ⟨rfl, hv15.below⟩
  · have hx : ¬ l0.length ≤ 1048576 := hn0
    have hsz := szv_no hn0
    go_enter Try.func4, Try.ntmps4
    go_wp2_with fail
    refine (szGroup_any _ _ _ _ hl0).mono ?_; rintro e w1 ⟨rfl, hb1⟩; have hv1 := hv0.step hb1
    go_wp2
    go_ret
    exact ⟨rfl, hv1.below⟩
set_option linter.unusedVariables false in
set_option maxRecDepth 100000 in
theorem lifted (os : Os) (started : os.Started) (H : Type) (enc : TypeId × Value → H) :
    ReturnsInHanded {} Try.checked os 4 .any (Rows.fnExactQuotientSetSpec.pre6 enc Try.prog Try.f4 Rows.fnExactQuotientSetRow.domain false) (Rows.fnExactQuotientSetSpec.post enc Try.prog Try.f4 false true false false) := by
  refine returnsInHanded_of_change (C := Try.checked) own started (by kernel_rfl) Try.func4
    (ChangeSpec.witness6 (enc := enc) (C := Try.checked) false ⟨#[], #[.agg #[.slice none 0 0], .int .i64 0, .int .i64 0], []⟩ 8 (by kernel_rfl) (by kernel_rfl) (by kernel_rfl) (by kernel_rfl)) ?_
  intro W base args ds gs before hval0 hW hcnd _
  have hval : ∀ (j : Nat) t v, Try.f4.params[j]? = some t → args[j]? = some v → Value.okWide Try.prog W .any base t v := hval0
  have hW' := hW
  obtain ⟨p, q, hA0, hV, rfl, hfz, hnd⟩ := hW
  have hA : DataW.TrodAll enc Try.prog W 0 (fun _ => true) true Try.f4.params.toList args.toList ds p := hA0
  rw [Try.params4] at hA hval
  obtain ⟨v0, vs0, d0, ds0, p0, q0, hargs, rfl, rfl, h0, r0⟩ := trodAll_cons hA
  obtain ⟨v1, vs1, d1, ds1, p1, q1, rfl, rfl, rfl, h1, r1⟩ := trodAll_cons r0
  obtain ⟨v2, vs2, d2, ds2, p2, q2, rfl, rfl, rfl, h2, r2⟩ := trodAll_cons r1
  obtain ⟨rfl, rfl, rfl⟩ := trodAll_nil r2
  obtain rfl : args = #[v0, v1, v2] := by cases args; simp_all
  obtain ⟨rfl, rfl⟩ := trodVars_none hV
  have k0 := h0
  have lt0 : ∀ x ∈ p0, x.block < W.heap.size := by obtain ⟨m, hm⟩ := k0; exact DataW.trod_lt m _ _ _ hm
  obtain ⟨a0, l0, cap0, rfl, hr0, hl0⟩ := open_group (hval 0 24 v0 rfl rfl) h0
  obtain ⟨i1, rfl, rfl, rfl, w1⟩ := open_int Try.underlying3 (hval 1 3 v1 rfl rfl) h1
  obtain ⟨i2, rfl, rfl, rfl, w2⟩ := open_int Try.underlying3 (hval 2 3 v2 rfl rfl) h2
  clear hA0 hval0
  refine (walk a0 cap0 l0 i1 i2 W hl0 hr0).mono fun e W' ⟨he, bel⟩ => ?_
  subst he
  exact ⟨_, rfl, _, _, _, [], _, [], hW', trodAll_mk1 (shut_bool Try.underlying4 _), (trodAll_cons_mk (Below.trod laidOut (by kernel_rfl) (of_decide_eq_true (by kernel_rfl)) k0 bel lt0) (trodAll_cons_mk (shut_int Try.underlying3 w1) (trodAll_cons_mk (shut_int Try.underlying3 w2) trodAll_mk0))), rfl, bel.frame _, fun h => by cases h⟩

theorem over : Rows.fnExactQuotientSetRow.holds Try.pinned (OpenSpec.ofChange Rows.fnExactQuotientSetSpec) :=
  OpenClaim.holds_of_wide 4 Try.f4 rfl rfl rfl rfl rfl rfl rfl ⟨rfl, rfl, rfl, rfl, rfl⟩ rfl rfl rfl rfl rfl (by kernel_rfl) Try.func4 (by kernel_rfl)
    (of_decide_eq_true (by kernel_rfl)) (by unfold Func.isWrapper; first | (rw [if_pos (by decide +kernel)]; kernel_rfl) | (rw [if_neg (by decide +kernel)]; exact ⟨rfl, rfl⟩))
    (fun os started H enc _ => lifted os started H enc)

theorem proved : Rows.FnExactQuotientSetSaid := over
#print axioms proved
end Go.Proofs.Ytbhgifhhjaeibaa.lawQuotientSet
