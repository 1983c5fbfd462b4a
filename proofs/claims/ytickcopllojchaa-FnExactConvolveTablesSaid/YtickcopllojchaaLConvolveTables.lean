/-
  Proved: FnExactConvolveTables returns true for all arguments, and leaves them as they were.
  Conditions: none.
-/
import Derived.Test.YtickcopllojchaaLaw4
import Derived.Test.YtickcopllojchaaLift
import Derived.Test.YtickcopllojchaaConvo
import Derived.Test.YtickcopllojchaaConvo2
namespace Go.Proofs.Ytickcopllojchaa.lawConvolveTables
open Go.ChangeShapes Go.WideShapes Go.ChangeAt Go.RowKit

set_option maxHeartbeats 1000000 in
theorem walk (a0 : Option Addr) (cap0 : Nat) (l0 : List Int) (a1 : Option Addr) (cap1 : Nat) (l1 : List Int) (a2 : Option Addr) (cap2 : Nat) (l2 : List Int) (w : World) (hl0 : l0.length ≤ 9223372036854775807) (hr0 : RowV w a0 l0) (hl1 : l1.length ≤ 9223372036854775807) (hr1 : RowV w a1 l1) (hl2 : l2.length ≤ 9223372036854775807) (hr2 : RowV w a2 l2) :
    Calls Try.prog 6 #[.agg #[.slice a0 l0.length cap0], .slice a1 l1.length cap1, .slice a2 l2.length cap2] w fun e w' => e = .returned (.bool true) ∧ Below w.heap.size w w' := by
  have hv0 : Liv w [] [(a0, l0), (a1, l1), (a2, l2)] [] w := Liv.init [(a0, l0), (a1, l1), (a2, l2)] (by intro p hp; simp only [List.mem_cons, List.not_mem_nil, or_false] at hp; rcases hp with rfl | rfl | rfl <;> assumption)
  have hv0 := hv0.box 28 (.slice a0 l0.length cap0)
  by_cases hn1 : l1.length ≤ 1048576
  · skip
    by_cases hn2 : l2.length ≤ 1048576
    · skip
      by_cases hn0 : l0.length ≤ 1048576
      · skip
        have hsz := szv_yes hn0
        have heq0 := hid (eqL_refl l0)
        have heq1 := hid (eqL_refl l1)
        have heq2 := hid (eqL_refl l2)
        have hrl := hid (cvF_len l0 l1 l2)
        generalize hR : cvF l0 l1 l2 = R at hrl
        have hR := hid hR
        have heqR := hid (eqL_refl R)
        go_enter Try.func6, Try.ntmps6
        have hbx0 := hv0.cell (k := w.heap.size) (v := .slice a0 l0.length cap0) (by simp)
        go_wp2_with fail
        refine (szGroup_any _ _ _ _ hl0).mono ?_; rintro e w1 ⟨rfl, hb1⟩; have hv1 := hv0.step hb1
        clear hbx0
        clear hv0 hb1
        have hbx0 := hv1.cell (k := w.heap.size) (v := .slice a0 l0.length cap0) (by simp)
        go_wp2_with fail
        refine (toGroup_any _ _ _ _ hn0 (hv1.row (by simp))).mono ?_; rintro e w2 ⟨g2, c2, rfl, hm2⟩; have hv2 := hv1.own hm2
        clear hbx0
        clear hv1 hm2
        have hbx0 := hv2.cell (k := w.heap.size) (v := .slice a0 l0.length cap0) (by simp)
        go_wp2_with fail
        refine (toIntS_any _ _ _ _ hn1 (hv2.row (by simp))).mono ?_; rintro e w3 ⟨g3, c3, rfl, hm3⟩; have hv3 := hv2.own hm3
        clear hbx0
        clear hv2 hm3
        have hbx0 := hv3.cell (k := w.heap.size) (v := .slice a0 l0.length cap0) (by simp)
        go_wp2_with fail
        refine (toIntS_any _ _ _ _ hn2 (hv3.row (by simp))).mono ?_; rintro e w4 ⟨g4, c4, rfl, hm4⟩; have hv4 := hv3.own hm4
        clear hbx0
        clear hv3 hm4
        have hbx0 := hv4.cell (k := w.heap.size) (v := .slice a0 l0.length cap0) (by simp)
        go_wp2_with fail
        refine (sConvolveTables_any _ _ _ _ _ _ _ _ _ _ _ (by omega) (by omega) (by omega) (hv4.grp (g := g2) (c := c2) (by simp)) (hv4.grp (g := g3) (c := c3) (by simp)) (hv4.grp (g := g4) (c := c4) (by simp))).mono ?_; rintro e w5 ⟨g5, c5, rfl, hm5⟩; rw [hR.out] at hm5 ⊢; have hv5 := hv4.own hm5
        clear hbx0
        clear hv4 hm5
        have hbx0 := hv5.cell (k := w.heap.size) (v := .slice a0 l0.length cap0) (by simp)
        go_wp2_with fail
        refine (toGroup_any _ _ _ _ hn0 (hv5.row (by simp))).mono ?_; rintro e w6 ⟨g6, c6, rfl, hm6⟩; have hv6 := hv5.own hm6
        clear hbx0
        clear hv5 hm6
        have hx6 := hv6.box 32 (.slice (some ⟨g6, 0, none⟩) l0.length c6)
        clear hv6
        have hbx0 := hx6.cell (k := w6.heap.size) (v := .slice (some ⟨g6, 0, none⟩) l0.length c6) (by simp)
        have hbx1 := hx6.cell (k := w.heap.size) (v := .slice a0 l0.length cap0) (by simp)
        go_wp2_with fail
        refine (toIntS_any _ _ _ _ hn1 (hx6.row (by simp))).mono ?_; rintro e w7 ⟨g7, c7, rfl, hm7⟩; have hv7 := hx6.own hm7
        clear hbx0 hbx1
        clear hx6 hm7
        have hbx0 := hv7.cell (k := w6.heap.size) (v := .slice (some ⟨g6, 0, none⟩) l0.length c6) (by simp)
        have hbx1 := hv7.cell (k := w.heap.size) (v := .slice a0 l0.length cap0) (by simp)
        go_wp2_with fail
        refine (toIntS_any _ _ _ _ hn2 (hv7.row (by simp))).mono ?_; rintro e w8 ⟨g8, c8, rfl, hm8⟩; have hv8 := hv7.own hm8
        clear hbx0 hbx1
        clear hv7 hm8
        have hbx0 := hv8.cell (k := w6.heap.size) (v := .slice (some ⟨g6, 0, none⟩) l0.length c6) (by simp)
        have hbx1 := hv8.cell (k := w.heap.size) (v := .slice a0 l0.length cap0) (by simp)
        go_wp2_with fail
        refine (convolveTables_any _ _ _ _ _ _ _ _ _ _ _ (by omega) (by omega) (by omega) (hv8.grp (g := g6) (c := c6) (by simp)) (hv8.grp (g := g7) (c := c7) (by simp)) (hv8.grp (g := g8) (c := c8) (by simp))).mono ?_; rintro e w9 ⟨g9, c9, rfl, hm9⟩; rw [hR.out] at hm9 ⊢; have hv9 := hv8.own hm9
        clear hbx0 hbx1
        clear hv8 hm9
        have hbx0 := hv9.cell (k := w6.heap.size) (v := .slice (some ⟨g6, 0, none⟩) l0.length c6) (by simp)
        have hbx1 := hv9.cell (k := w.heap.size) (v := .slice a0 l0.length cap0) (by simp)
        go_wp2_with fail
        refine (eqIntS_any _ _ _ _ _ _ _ _ _ hrl.out hrl.out (hv9.grp (g := g9) (c := c9) (by simp)) (hv9.grp (g := g5) (c := c5) (by simp))).mono ?_; rintro e w10 ⟨rfl, hb10⟩; rw [heqR.out]; have hv10 := hv9.step hb10
        clear hbx0 hbx1
        clear hv9 hb10
        have hvd := (hv10.drew).hold (k := w.heap.size) (j := w6.heap.size) (u := .slice a0 l0.length cap0) (v := .slice (some ⟨g6, 0, none⟩) l0.length c6) (by simp) (by simp)
        clear hv10
        go_wp2
        go_region_held3 (fun w' => w'.cell? ⟨w.heap.size, 0, none⟩ = some (.slice a0 l0.length cap0) ∧ w'.cell? ⟨w6.heap.size, 0, none⟩ = some (.slice (some ⟨g6, 0, none⟩) l0.length c6) ∧ Liv w [(w6.heap.size, .slice (some ⟨g6, 0, none⟩) l0.length c6), (w.heap.size, .slice a0 l0.length cap0)] [(a0, l0), (a1, l1), (a2, l2)] [(g9, c9, R), (g8, c8, l2), (g7, c7, l1), (g6, c6, l0), (g5, c5, R), (g4, c4, l2), (g3, c3, l1), (g2, c2, l0)] w') (first | exact hvd | exact Liv.keep (by assumption) hb12 (by simp) (by simp) | exact Liv.keep (by assumption) hm11.below (by simp) (by simp))
          (first | (go_at_call 25; refine (toGroup_any _ _ _ _ hn0 (Liv.row (And.right (And.right (by assumption))) (by simp))).mono ?_; rintro e w11 ⟨g11, c11, rfl, hm11⟩; have hg11 := hm11.grp) | (go_at_call 27; refine (eqGroup_any _ _ _ _ _ _ _ _ _ hn0 hn0 (Liv.grp (And.right (And.right (by assumption))) (g := g6) (c := c6) (by simp)) (by assumption)).mono ?_; rintro e w12 ⟨rfl, hb12⟩; rw [heq0.out]))
        have hv12 : Liv w [(w6.heap.size, .slice (some ⟨g6, 0, none⟩) l0.length c6), (w.heap.size, .slice a0 l0.length cap0)] [(a0, l0), (a1, l1), (a2, l2)] [(g9, c9, R), (g8, c8, l2), (g7, c7, l1), (g6, c6, l0), (g5, c5, R), (g4, c4, l2), (g3, c3, l1), (g2, c2, l0)] w12 := And.right (And.right (by assumption))
        clear hvd
        have hbx0 := hv12.cell (k := w6.heap.size) (v := .slice (some ⟨g6, 0, none⟩) l0.length c6) (by simp)
        have hbx1 := hv12.cell (k := w.heap.size) (v := .slice a0 l0.length cap0) (by simp)
        go_wp2_with fail
        refine (toIntS_any _ _ _ _ hn1 (hv12.row (by simp))).mono ?_; rintro e w13 ⟨g13, c13, rfl, hm13⟩; have hv13 := hv12.own hm13
        clear hbx0 hbx1
        clear hv12 hm13
        have hbx0 := hv13.cell (k := w6.heap.size) (v := .slice (some ⟨g6, 0, none⟩) l0.length c6) (by simp)
        have hbx1 := hv13.cell (k := w.heap.size) (v := .slice a0 l0.length cap0) (by simp)
        go_wp2_with fail
        refine (eqIntS_any _ _ _ _ _ _ _ _ _ hn1 hn1 (hv13.grp (g := g7) (c := c7) (by simp)) (hv13.grp (g := g13) (c := c13) (by simp))).mono ?_; rintro e w14 ⟨rfl, hb14⟩; rw [heq1.out]; have hv14 := hv13.step hb14
        clear hbx0 hbx1
        clear hv13 hb14
        have hbx0 := hv14.cell (k := w6.heap.size) (v := .slice (some ⟨g6, 0, none⟩) l0.length c6) (by simp)
        have hbx1 := hv14.cell (k := w.heap.size) (v := .slice a0 l0.length cap0) (by simp)
        go_wp2_with fail
        refine (toIntS_any _ _ _ _ hn2 (hv14.row (by simp))).mono ?_; rintro e w15 ⟨g15, c15, rfl, hm15⟩; have hv15 := hv14.own hm15
        clear hbx0 hbx1
        clear hv14 hm15
        have hbx0 := hv15.cell (k := w6.heap.size) (v := .slice (some ⟨g6, 0, none⟩) l0.length c6) (by simp)
        have hbx1 := hv15.cell (k := w.heap.size) (v := .slice a0 l0.length cap0) (by simp)
        go_wp2_with fail
        refine (eqIntS_any _ _ _ _ _ _ _ _ _ hn2 hn2 (hv15.grp (g := g8) (c := c8) (by simp)) (hv15.grp (g := g15) (c := c15) (by simp))).mono ?_; rintro e w16 ⟨rfl, hb16⟩; rw [heq2.out]; have hv16 := hv15.step hb16
        clear hbx0 hbx1
        clear hv15 hb16
        have hbx0 := hv16.cell (k := w6.heap.size) (v := .slice (some ⟨g6, 0, none⟩) l0.length c6) (by simp)
        have hbx1 := hv16.cell (k := w.heap.size) (v := .slice a0 l0.length cap0) (by simp)
        go_wp2_with fail
        obtain ⟨B17, ho17⟩ := hv16.ownAt (g := g6) (c := c6) (l := l0) (by simp); refine (markGroup_any B17 g6 c6 (1) l0 _ hn0 (by omega) ho17).mono ?_; rintro e w17 ⟨rfl, hm17, hgr17⟩; have hv17 := Liv.mark (O1 := [(g15, c15, l2), (g13, c13, l1), (g9, c9, R), (g8, c8, l2), (g7, c7, l1)]) (O2 := [(g5, c5, R), (g4, c4, l2), (g3, c3, l1), (g2, c2, l0)]) hv16 hm17 hgr17
        have hv17 : Liv w [(w6.heap.size, .slice (some ⟨g6, 0, none⟩) l0.length c6), (w.heap.size, .slice a0 l0.length cap0)] [(a0, l0), (a1, l1), (a2, l2)] [(g15, c15, l2), (g13, c13, l1), (g9, c9, R), (g8, c8, l2), (g7, c7, l1), (g6, c6, marks (1) l0.length), (g5, c5, R), (g4, c4, l2), (g3, c3, l1), (g2, c2, l0)] w17 := hv17
        clear hbx0 hbx1
        clear hv16 hgr17 ho17 hm17
        have hbx0 := hv17.cell (k := w6.heap.size) (v := .slice (some ⟨g6, 0, none⟩) l0.length c6) (by simp)
        have hbx1 := hv17.cell (k := w.heap.size) (v := .slice a0 l0.length cap0) (by simp)
        go_wp2_with fail
        obtain ⟨B18, ho18⟩ := hv17.ownAt (g := g7) (c := c7) (l := l1) (by simp); refine (markIntS_any B18 g7 c7 (1 + l0.length) l1 _ hn1 (by omega) ho18).mono ?_; rintro e w18 ⟨rfl, hm18, hgr18⟩; have hv18 := Liv.mark (O1 := [(g15, c15, l2), (g13, c13, l1), (g9, c9, R), (g8, c8, l2)]) (O2 := [(g6, c6, marks (1) l0.length), (g5, c5, R), (g4, c4, l2), (g3, c3, l1), (g2, c2, l0)]) hv17 hm18 hgr18
        have hv18 : Liv w [(w6.heap.size, .slice (some ⟨g6, 0, none⟩) l0.length c6), (w.heap.size, .slice a0 l0.length cap0)] [(a0, l0), (a1, l1), (a2, l2)] [(g15, c15, l2), (g13, c13, l1), (g9, c9, R), (g8, c8, l2), (g7, c7, marks (1 + l0.length) l1.length), (g6, c6, marks (1) l0.length), (g5, c5, R), (g4, c4, l2), (g3, c3, l1), (g2, c2, l0)] w18 := hv18
        clear hbx0 hbx1
        clear hv17 hgr18 ho18 hm18
        have hbx0 := hv18.cell (k := w6.heap.size) (v := .slice (some ⟨g6, 0, none⟩) l0.length c6) (by simp)
        have hbx1 := hv18.cell (k := w.heap.size) (v := .slice a0 l0.length cap0) (by simp)
        go_wp2_with fail
        obtain ⟨B19, ho19⟩ := hv18.ownAt (g := g8) (c := c8) (l := l2) (by simp); refine (markIntS_any B19 g8 c8 (1 + l0.length + l1.length) l2 _ hn2 (by omega) ho19).mono ?_; rintro e w19 ⟨rfl, hm19, hgr19⟩; have hv19 := Liv.mark (O1 := [(g15, c15, l2), (g13, c13, l1), (g9, c9, R)]) (O2 := [(g7, c7, marks (1 + l0.length) l1.length), (g6, c6, marks (1) l0.length), (g5, c5, R), (g4, c4, l2), (g3, c3, l1), (g2, c2, l0)]) hv18 hm19 hgr19
        have hv19 : Liv w [(w6.heap.size, .slice (some ⟨g6, 0, none⟩) l0.length c6), (w.heap.size, .slice a0 l0.length cap0)] [(a0, l0), (a1, l1), (a2, l2)] [(g15, c15, l2), (g13, c13, l1), (g9, c9, R), (g8, c8, marks (1 + l0.length + l1.length) l2.length), (g7, c7, marks (1 + l0.length) l1.length), (g6, c6, marks (1) l0.length), (g5, c5, R), (g4, c4, l2), (g3, c3, l1), (g2, c2, l0)] w19 := hv19
        clear hbx0 hbx1
        clear hv18 hgr19 ho19 hm19
        have hbx0 := hv19.cell (k := w6.heap.size) (v := .slice (some ⟨g6, 0, none⟩) l0.length c6) (by simp)
        have hbx1 := hv19.cell (k := w.heap.size) (v := .slice a0 l0.length cap0) (by simp)
        go_wp2_with fail
        refine (eqIntS_any _ _ _ _ _ _ _ _ _ hrl.out hrl.out (hv19.grp (g := g9) (c := c9) (by simp)) (hv19.grp (g := g5) (c := c5) (by simp))).mono ?_; rintro e w20 ⟨rfl, hb20⟩; rw [heqR.out]; have hv20 := hv19.step hb20
        clear hbx0 hbx1
        clear hv19 hb20
        have hbx0 := hv20.cell (k := w6.heap.size) (v := .slice (some ⟨g6, 0, none⟩) l0.length c6) (by simp)
        have hbx1 := hv20.cell (k := w.heap.size) (v := .slice a0 l0.length cap0) (by simp)
        go_wp2_with fail
        obtain ⟨B21, ho21⟩ := hv20.ownAt (g := g9) (c := c9) (l := R) (by simp); refine (markIntS_any B21 g9 c9 (1) R _ hrl.out (by omega) ho21).mono ?_; rintro e w21 ⟨rfl, hm21, hgr21⟩; have hv21 := Liv.mark (O1 := [(g15, c15, l2), (g13, c13, l1)]) (O2 := [(g8, c8, marks (1 + l0.length + l1.length) l2.length), (g7, c7, marks (1 + l0.length) l1.length), (g6, c6, marks (1) l0.length), (g5, c5, R), (g4, c4, l2), (g3, c3, l1), (g2, c2, l0)]) hv20 hm21 hgr21
        have hv21 : Liv w [(w6.heap.size, .slice (some ⟨g6, 0, none⟩) l0.length c6), (w.heap.size, .slice a0 l0.length cap0)] [(a0, l0), (a1, l1), (a2, l2)] [(g15, c15, l2), (g13, c13, l1), (g9, c9, marks (1) R.length), (g8, c8, marks (1 + l0.length + l1.length) l2.length), (g7, c7, marks (1 + l0.length) l1.length), (g6, c6, marks (1) l0.length), (g5, c5, R), (g4, c4, l2), (g3, c3, l1), (g2, c2, l0)] w21 := hv21
        clear hbx0 hbx1
        clear hv20 hgr21 ho21 hm21
        have hbx0 := hv21.cell (k := w6.heap.size) (v := .slice (some ⟨g6, 0, none⟩) l0.length c6) (by simp)
        have hbx1 := hv21.cell (k := w.heap.size) (v := .slice a0 l0.length cap0) (by simp)
        go_wp2_with fail
        obtain ⟨B22, ho22⟩ := hv21.ownAt (g := g9) (c := c9) (l := marks 1 R.length) (by simp); refine (heldIntS_any B22 _ _ 1 R.length _ hrl.out (by omega) ho22).mono ?_; rintro e w22 ⟨rfl, rfl⟩; clear ho22
        clear hbx0 hbx1
        have hbx0 := hv21.cell (k := w6.heap.size) (v := .slice (some ⟨g6, 0, none⟩) l0.length c6) (by simp)
        have hbx1 := hv21.cell (k := w.heap.size) (v := .slice a0 l0.length cap0) (by simp)
        go_wp2_with fail
        refine (toGroup_any _ _ _ _ hn0 (hv21.row (by simp))).mono ?_; rintro e w23 ⟨g23, c23, rfl, hm23⟩; have hv23 := hv21.own hm23
        clear hbx0 hbx1
        clear hv21 hm23
        have hbx0 := hv23.cell (k := w6.heap.size) (v := .slice (some ⟨g6, 0, none⟩) l0.length c6) (by simp)
        have hbx1 := hv23.cell (k := w.heap.size) (v := .slice a0 l0.length cap0) (by simp)
        go_wp2_with fail
        refine (toIntS_any _ _ _ _ hn1 (hv23.row (by simp))).mono ?_; rintro e w24 ⟨g24, c24, rfl, hm24⟩; have hv24 := hv23.own hm24
        clear hbx0 hbx1
        clear hv23 hm24
        have hbx0 := hv24.cell (k := w6.heap.size) (v := .slice (some ⟨g6, 0, none⟩) l0.length c6) (by simp)
        have hbx1 := hv24.cell (k := w.heap.size) (v := .slice a0 l0.length cap0) (by simp)
        go_wp2_with fail
        refine (toIntS_any _ _ _ _ hn2 (hv24.row (by simp))).mono ?_; rintro e w25 ⟨g25, c25, rfl, hm25⟩; have hv25 := hv24.own hm25
        clear hbx0 hbx1
        clear hv24 hm25
        have hbx0 := hv25.cell (k := w6.heap.size) (v := .slice (some ⟨g6, 0, none⟩) l0.length c6) (by simp)
        have hbx1 := hv25.cell (k := w.heap.size) (v := .slice a0 l0.length cap0) (by simp)
        go_wp2_with fail
        refine (convolveTables_any _ _ _ _ _ _ _ _ _ _ _ (by omega) (by omega) (by omega) (hv25.grp (g := g23) (c := c23) (by simp)) (hv25.grp (g := g24) (c := c24) (by simp)) (hv25.grp (g := g25) (c := c25) (by simp))).mono ?_; rintro e w26 ⟨g26, c26, rfl, hm26⟩; rw [hR.out] at hm26 ⊢; have hv26 := hv25.own hm26
        clear hbx0 hbx1
        clear hv25 hm26
        have hbx0 := hv26.cell (k := w6.heap.size) (v := .slice (some ⟨g6, 0, none⟩) l0.length c6) (by simp)
        have hbx1 := hv26.cell (k := w.heap.size) (v := .slice a0 l0.length cap0) (by simp)
        go_wp2_with fail
        refine (eqIntS_any _ _ _ _ _ _ _ _ _ hrl.out hrl.out (hv26.grp (g := g26) (c := c26) (by simp)) (hv26.grp (g := g5) (c := c5) (by simp))).mono ?_; rintro e w27 ⟨rfl, hb27⟩; rw [heqR.out]; have hv27 := hv26.step hb27
        clear hbx0 hbx1
        clear hv26 hb27
        have hbx0 := hv27.cell (k := w6.heap.size) (v := .slice (some ⟨g6, 0, none⟩) l0.length c6) (by simp)
        have hbx1 := hv27.cell (k := w.heap.size) (v := .slice a0 l0.length cap0) (by simp)
        go_wp2_with fail
        obtain ⟨B28, ho28⟩ := hv27.ownAt (g := g9) (c := c9) (l := marks 1 R.length) (by simp); refine (heldIntS_any B28 _ _ 1 R.length _ hrl.out (by omega) ho28).mono ?_; rintro e w28 ⟨rfl, rfl⟩; clear ho28
        clear hbx0 hbx1
        go_wp2
        go_ret
        exact ⟨rfl, hv27.below⟩
      · have hx : ¬ l0.length ≤ 1048576 := hn0
        have hsz := szv_no hn0
        go_enter Try.func6, Try.ntmps6
        go_wp2_with fail
        refine (szGroup_any _ _ _ _ hl0).mono ?_; rintro e w1 ⟨rfl, hb1⟩; have hv1 := hv0.step hb1
        go_wp2
        go_ret
        exact ⟨rfl, hv1.below⟩
    · have hx : ¬ l2.length ≤ 1048576 := hn2
      go_enter Try.func6, Try.ntmps6
      go_wp2
      go_ret
      exact ⟨rfl, hv0.below⟩
  · have hx : ¬ l1.length ≤ 1048576 := hn1
    go_enter Try.func6, Try.ntmps6
    go_wp2
    go_ret
    exact ⟨rfl, hv0.below⟩
set_option linter.unusedVariables false in
set_option maxRecDepth 100000 in
set_option maxHeartbeats 2000000 in
theorem lifted (os : Os) (started : os.Started) (H : Type) (enc : TypeId × Value → H) :
    ReturnsInHanded {} Try.checked os 6 .any (Rows.fnExactConvolveTablesSpec.pre6 enc Try.prog Try.f6 Rows.fnExactConvolveTablesRow.domain false) (Rows.fnExactConvolveTablesSpec.post enc Try.prog Try.f6 false true false false) := by
  refine returnsInHanded_of_change (C := Try.checked) own started (by kernel_rfl) Try.func6
    (ChangeSpec.witness6 (enc := enc) (C := Try.checked) false ⟨#[], #[.agg #[.slice none 0 0], .slice none 0 0, .slice none 0 0], []⟩ 8 (by kernel_rfl) (by kernel_rfl) (by kernel_rfl) (by kernel_rfl)) ?_
  intro W base args ds gs before hval0 hW hcnd _
  have hval : ∀ (j : Nat) t v, Try.f6.params[j]? = some t → args[j]? = some v → Value.okWide Try.prog W .any base t v := hval0
  have hW' := hW
  obtain ⟨p, q, hA0, hV, rfl, hfz, hnd⟩ := hW
  have hA : DataW.TrodAll enc Try.prog W 0 (fun _ => true) true Try.f6.params.toList args.toList ds p := hA0
  rw [Try.params6] at hA hval
  obtain ⟨v0, vs0, d0, ds0, p0, q0, hargs, rfl, rfl, h0, r0⟩ := trodAll_cons hA
  obtain ⟨v1, vs1, d1, ds1, p1, q1, rfl, rfl, rfl, h1, r1⟩ := trodAll_cons r0
  obtain ⟨v2, vs2, d2, ds2, p2, q2, rfl, rfl, rfl, h2, r2⟩ := trodAll_cons r1
  obtain ⟨rfl, rfl, rfl⟩ := trodAll_nil r2
  obtain rfl : args = #[v0, v1, v2] := by cases args; simp_all
  obtain ⟨rfl, rfl⟩ := trodVars_none hV
  have k0 := h0
  have lt0 : ∀ x ∈ p0, x.block < W.heap.size := by obtain ⟨m, hm⟩ := k0; exact DataW.trod_lt m _ _ _ hm
  obtain ⟨a0, l0, cap0, rfl, hr0, hl0⟩ := open_group (hval 0 28 v0 rfl rfl) h0
  have k1 := h1
  have lt1 : ∀ x ∈ p1, x.block < W.heap.size := by obtain ⟨m, hm⟩ := k1; exact DataW.trod_lt m _ _ _ hm
  obtain ⟨x1, n1, m1, rfl⟩ := okWide_slice Try.underlying22 (hval 1 22 v1 rfl rfl)
  obtain ⟨fu1, hf1⟩ := h1
  obtain ⟨a1, l1, cap1, e1, hr1, hl1⟩ := open_row (by simpa [Value.cells] using hf1)
  simp only [Value.slice.injEq] at e1
  obtain ⟨rfl, rfl, rfl⟩ := e1
  have k2 := h2
  have lt2 : ∀ x ∈ p2, x.block < W.heap.size := by obtain ⟨m, hm⟩ := k2; exact DataW.trod_lt m _ _ _ hm
  obtain ⟨x2, n2, m2, rfl⟩ := okWide_slice Try.underlying22 (hval 2 22 v2 rfl rfl)
  obtain ⟨fu2, hf2⟩ := h2
  obtain ⟨a2, l2, cap2, e2, hr2, hl2⟩ := open_row (by simpa [Value.cells] using hf2)
  simp only [Value.slice.injEq] at e2
  obtain ⟨rfl, rfl, rfl⟩ := e2
  clear hA0 hval0
  refine (walk a0 cap0 l0 x1 m1 l1 x2 m2 l2 W hl0 hr0 hl1 hr1 hl2 hr2).mono fun e W' ⟨he, bel⟩ => ?_
  subst he
  exact ⟨_, rfl, _, _, _, [], _, [], hW', trodAll_mk1 (shut_bool Try.underlying4 _), (trodAll_cons_mk (Below.trod laidOut (by kernel_rfl) (of_decide_eq_true (by kernel_rfl)) k0 bel lt0) (trodAll_cons_mk (Below.trod laidOut (by kernel_rfl) (of_decide_eq_true (by kernel_rfl)) k1 bel lt1) (trodAll_cons_mk (Below.trod laidOut (by kernel_rfl) (of_decide_eq_true (by kernel_rfl)) k2 bel lt2) trodAll_mk0))), rfl, bel.frame _, fun h => by cases h⟩

theorem over : Rows.fnExactConvolveTablesRow.holds Try.pinned (OpenSpec.ofChange Rows.fnExactConvolveTablesSpec) :=
  OpenClaim.holds_of_wide 6 Try.f6 rfl rfl rfl rfl rfl rfl rfl ⟨rfl, rfl, rfl, rfl, rfl⟩ rfl rfl rfl rfl rfl (by kernel_rfl) Try.func6 (by kernel_rfl)
    (of_decide_eq_true (by kernel_rfl)) (by unfold Func.isWrapper; first | (rw [if_pos (by decide +kernel)]; kernel_rfl) | (rw [if_neg (by decide +kernel)]; exact ⟨rfl, rfl⟩))
    (fun os started H enc _ => lifted os started H enc)

theorem proved : Rows.FnExactConvolveTablesSaid := over
#print axioms proved
end Go.Proofs.Ytickcopllojchaa.lawConvolveTables
