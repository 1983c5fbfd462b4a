/-
  Contracts of the reference's drawing: a group and a subgroup.
-/
import Derived.Test.YtpflnmcecnbilaaDraw10
import Derived.Test.YtpflnmcecnbilaaDraw7
namespace Go.Proofs.Ytpflnmcecnbilaa
open Go.RowKit

/-- the list lies elsewhere than the cursor -/
theorem GrpAt.ne_cur {wr : World} {g C : Nat} {L : List Int} (h : GrpAt wr g 0 L) (hc : Cur wr C) (hL : 1 ≤ L.length) : g ≠ C := by
  rintro rfl
  obtain ⟨_, _, _, _, _, _, h0, _⟩ := hc
  have h1 := h.cell0 0 (by omega)
  rw [h0] at h1; cases h1
theorem subB_nat {l : List Int} {h : Int} (e : subB l h = true) : ∃ H : Nat, h = (H : Int) ∧ H < 16777216 := by
  unfold subB at e
  rw [Bool.and_eq_true] at e
  obtain ⟨m, H, hm, _, rfl, hH⟩ := isSetB_iff.1 e.1
  exact ⟨H, rfl, hm.lt24 hH⟩
/-- the result's cell holds no number -/
def GN (w wr : World) : Prop := wr.cell? ⟨w.heap.size, 0, none⟩ = some (.slice none 0 0)
theorem GN.ne {w wr : World} {g : Nat} {L : List Int} (h : GN w wr) (hg : GrpAt wr g 0 L) (hL : 1 ≤ L.length) : g ≠ w.heap.size := by
  rintro rfl
  have h1 := hg.cell0 0 (by omega)
  rw [show wr.cell? ⟨w.heap.size, 0, none⟩ = some (.slice none 0 0) from h] at h1; cases h1
theorem nums_lt {L : List Nat} (h : Nums L) (z : Nat) : L.getD z 0 < 16777216 := by
  rw [List.getD_eq_getElem?_getD]
  cases e : L[z]? with
  | none => simp
  | some y => exact h y (List.mem_of_getElem? e)
/-- the world with a list beside it, whose cells are named -/
structure ScS (w : World) (C G b cap : Nat) (l : List Int) (gL : Nat) (f : Nat → Option Value) (wr : World) : Prop where
  s : ScB w C G b cap l wr
  f : ∀ i : Nat, wr.cell? ⟨gL, i, none⟩ = f i
  lt : gL < wr.heap.size
  ne : gL ≠ C
  nr : gL ≠ w.heap.size
section
variable {w wr w1 : World} {C G b cap gL : Nat} {l : List Int} {f : Nat → Option Value}
theorem ScS.drewS (h : ScS w C G b cap l gL f wr) (hd : Drew wr C w1) : ScS w C G b cap l gL f w1 := ⟨h.s.drew hd, fun i => (hd.at h.lt h.ne).trans (h.f i), Nat.lt_of_lt_of_le h.lt hd.gr.size, h.ne, h.nr⟩
theorem ScS.drw (h : ScS w C G b cap l gL f wr) : ScS w C G b cap l gL f wr.drew := ⟨h.s.drw, fun i => h.f i, h.lt, h.ne, h.nr⟩
theorem ScS.setRS (h : ScS w C G b cap l gL f wr) (v : Value) : ScS w C G b cap l gL f (wr.setCell ⟨w.heap.size, 0, none⟩ v) := ⟨h.s.setR v, fun i => (World.cell?_of_block (Below.heap_setCell _ _ _ _ h.nr)).trans (h.f i), by simpa using h.lt, h.ne, h.nr⟩
theorem ScS.hold (h : ScS w C G b cap l gL f wr) : wr.cell? ⟨G, 0, none⟩ = some (.slice (some ⟨b, 0, none⟩) l.length cap) ∧ wr.cell? ⟨w.heap.size, 0, none⟩ = some (atR wr w.heap.size) ∧ wr.frozen? ⟨w.heap.size, 0, none⟩ = false ∧ (∀ i : Nat, wr.cell? ⟨gL, i, none⟩ = f i) ∧ ScS w C G b cap l gL f wr :=
  ⟨h.s.hold.1, h.s.hold.2.1, h.s.hold.2.2.1, h.f, h⟩
theorem ScS.of {X Y Z U : Prop} (h : X ∧ Y ∧ Z ∧ U ∧ ScS w C G b cap l gL f wr) : ScS w C G b cap l gL f wr := h.2.2.2.2
end
set_option maxRecDepth 4000 in
set_option maxHeartbeats 4000000 in
theorem l5Group_any (C : Nat) (w : World) (hc : Cur w C) :
    Calls Try.prog 193 #[.pointer (some ⟨C, 0, none⟩)] w (DrewG1 w C) := by
  have hCw := hc.lt
  have hd0 := (Drew.refl hc).alloc (.cells #[.slice none 0 0] 26)
  go_enter Try.func193, Try.ntmps193
  go_wp2_with fail
  have hR0 : (w.alloc (.cells #[.slice none 0 0] 26)).cell? ⟨w.heap.size, 0, none⟩ = some (.slice none 0 0) := box_new _ _ _
  have hsz0 : (w.alloc (.cells #[.slice none 0 0] 26)).heap.size = w.heap.size + 1 := by simp
  generalize h0 : w.alloc (.cells #[.slice none 0 0] 26) = w0 at *
  refine (l2Any_any C w0 hd0.cur).mono ?_; rintro e w3 ⟨b, cap, l, rfl, hbb, hl, hg, hd3⟩
  have hs := ScB.init (cap := cap) 26 hc h0 hd3 hbb hl hg
  have hbw := hs.hb
  have hR3 := (hd3.at (b := w.heap.size) (j := 0) (by omega) (by omega)).trans hR0
  have hsz3 := hd3.gr.size
  have hR4 := cell_alloc hR3 (by omega) (.cells #[.slice (some ⟨b, 0, none⟩) l.length cap] 26)
  have hR : Hid (GN w (w3.alloc (.cells #[.slice (some ⟨b, 0, none⟩) l.length cap] 26))) := hR4
  clear hR0 hR3 hR4 hsz0 hsz3
  clear h0 hd0 hc hd3 hbb hg
  generalize hG : w3.heap.size = G at *
  have hcG := hs.cG
  go_wp2_with fail
  generalize w3.alloc (.cells #[.slice (some ⟨b, 0, none⟩) l.length cap] 26) = wr at *
  clear hG
  refine (subgroupsOf_any b 0 cap l wr (by omega) hs.hg).mono ?_; rintro e w4 ⟨gL, cL, L, t, rfl, hne, hL, hgL, hb4⟩
  have hR4 : GN w w4 := (hb4.cell (p := ⟨w.heap.size, 0, none⟩) hs.lR).trans hR.out
  have hsB := hs.step hb4
  clear hs hb4 hcG
  have hcG := hsB.cG
  cases t
  · clear hne hgL hL hR4 hR
    go_wp2_with fail

    have hs1 := hsB.drw.hold
    go_region_held3 (fun w' => w'.cell? ⟨G, 0, none⟩ = some (.slice (some ⟨b, 0, none⟩) l.length cap) ∧ w'.cell? ⟨w.heap.size, 0, none⟩ = some (atR w' w.heap.size) ∧ w'.frozen? ⟨w.heap.size, 0, none⟩ = false ∧ ScB w C G b cap l w') (first | exact hs1 | exact (ScB.drew (ScB.of (by assumption)) hd5).hold | exact (ScB.setR (ScB.of (by assumption)) _).hold | assumption)
      (first | (go_at_call 161; refine (l3Set_any C b 0 cap l _ (ScB.of (by assumption)).dr.cur (by omega) (ScB.of (by assumption)).hg).mono ?_; rintro e w5 ⟨x, rfl, hx, hd5⟩))
    have hfin := (ScB.drew (ScB.of hs1) hd5).fin (.slice (some ⟨b, 0, none⟩) l.length cap)
    have hcR := hfin.1
    go_wp2
    refine bodyPost_ret (v := .tuple #[.agg #[.slice (some ⟨b, 0, none⟩) l.length cap], .int .i64 x]) (by simp [results, Try.results193, go_sem, hcR]) rfl ?_
    exact ⟨b, cap, l, _, rfl, by omega, hl, hfin.2.1, hx, hfin.2.2⟩
  · have hL1 := hne rfl
    clear hne
    go_wp2_with fail
    refine (l1Once_any C 5 _ (by omega) (by omega) hsB.dr.cur).mono ?_; rintro e w6 ⟨t, rfl, hd6⟩
    have hgL6 : GrpAt w6 gL 0 (cst L) := hd6.grp hgL.grp (hgL.grp.ne_cur hsB.dr.cur (by rw [cst_length]; exact hL1))
    have hgR : gL ≠ w.heap.size := hR4.ne hgL.grp (by rw [cst_length]; exact hL1)
    clear hR4 hR
    have hnL := hgL.nums
    have hcL := hgL.cap
    have hsC := hsB.drew hd6
    clear hsB hd6 hgL hcG
    have hcG := hsC.cG
    cases t
    · obtain ⟨f, hf⟩ : ∃ f : Nat → Option Value, Hid (∀ i, w6.cell? ⟨gL, i, none⟩ = f i) := ⟨fun i => w6.cell? ⟨gL, i, none⟩, fun _ => rfl⟩
      have hS5 : ScS w C G b cap l gL f w6 := ⟨hsC, hf.out, hgL6.blt, hgL6.ne_cur hsC.dr.cur (by rw [cst_length]; exact hL1), hgR⟩
      have hfz : Hid (∀ z, z < (cst L).length → ∃ y : Int, f z = some (.int .i64 y) ∧ I64 y) := fun z hz => ⟨_, (hf.out z).symm.trans (hgL6.nat0 z hz), I64_nat (by have := nums_lt hnL z; omega)⟩
      have hLc : 1 ≤ (cst L).length := by rw [cst_length]; exact hL1
      have hLd : (cst L).length ≤ 4611686018427387904 := by rw [cst_length]; omega
      clear hf hgL6 hnL hL hL1 hsC hgR
      go_wp2_with fail
      have hs1 := hS5.drw.hold
      go_region_held3 (fun w' => w'.cell? ⟨G, 0, none⟩ = some (.slice (some ⟨b, 0, none⟩) l.length cap) ∧ w'.cell? ⟨w.heap.size, 0, none⟩ = some (atR w' w.heap.size) ∧ w'.frozen? ⟨w.heap.size, 0, none⟩ = false ∧ (∀ i : Nat, w'.cell? ⟨gL, i, none⟩ = f i) ∧ ScS w C G b cap l gL f w') (first | exact hs1 | exact (ScS.drewS (ScS.of (by assumption)) hd5).hold | exact (ScS.setRS (ScS.of (by assumption)) _).hold | assumption)
        (first | (go_at_call 125; refine (l1Below_any C (cst L).length _ hLc hLd (ScS.of (by assumption)).s.dr.cur).mono ?_; rintro e w5 ⟨z, hz, rfl, hd5⟩; obtain ⟨x, hfx, hx⟩ := hfz.out z hz; have hz1 : (0 : Int) ≤ (z : Int) := Int.natCast_nonneg z; have hz2 : (z : Int) < ((cst L).length : Int) := Int.ofNat_lt.2 hz))
      have hfin := (ScB.drew (ScS.of hs1).s hd5).fin (.slice (some ⟨b, 0, none⟩) l.length cap)
      have hcR := hfin.1
      go_wp2
      refine bodyPost_ret (v := .tuple #[.agg #[.slice (some ⟨b, 0, none⟩) l.length cap], .int .i64 x]) (by simp [results, Try.results193, go_sem, hcR]) rfl ?_
      exact ⟨b, cap, l, _, rfl, by omega, hl, hfin.2.1, hx, hfin.2.2⟩
    · clear hgL6 hnL hcL hL1 hL hgR
      have hsB := hsC
      go_wp2_with fail
      have hs1 := hsB.drw.hold
      go_region_held3 (fun w' => w'.cell? ⟨G, 0, none⟩ = some (.slice (some ⟨b, 0, none⟩) l.length cap) ∧ w'.cell? ⟨w.heap.size, 0, none⟩ = some (atR w' w.heap.size) ∧ w'.frozen? ⟨w.heap.size, 0, none⟩ = false ∧ ScB w C G b cap l w') (first | exact hs1 | exact (ScB.drew (ScB.of (by assumption)) hd5).hold | exact (ScB.setR (ScB.of (by assumption)) _).hold | assumption)
        (first | (go_at_call 161; refine (l3Set_any C b 0 cap l _ (ScB.of (by assumption)).dr.cur (by omega) (ScB.of (by assumption)).hg).mono ?_; rintro e w5 ⟨x, rfl, hx, hd5⟩))
      have hfin := (ScB.drew (ScB.of hs1) hd5).fin (.slice (some ⟨b, 0, none⟩) l.length cap)
      have hcR := hfin.1
      go_wp2
      refine bodyPost_ret (v := .tuple #[.agg #[.slice (some ⟨b, 0, none⟩) l.length cap], .int .i64 x]) (by simp [results, Try.results193, go_sem, hcR]) rfl ?_
      exact ⟨b, cap, l, _, rfl, by omega, hl, hfin.2.1, hx, hfin.2.2⟩
set_option maxRecDepth 4000 in
set_option maxHeartbeats 4000000 in
theorem l6Set_any (C : Nat) (w : World) (hc : Cur w C) :
    Calls Try.prog 189 #[.pointer (some ⟨C, 0, none⟩)] w (DrewG1 w C) := by
  have hCw := hc.lt
  have hd0 := (Drew.refl hc).alloc (.cells #[.slice none 0 0] 26)
  go_enter Try.func189, Try.ntmps189
  go_wp2_with fail
  generalize h0 : w.alloc (.cells #[.slice none 0 0] 26) = w0 at *
  refine (l5Group_any C w0 hd0.cur).mono ?_; rintro e w3 ⟨b, cap, l, h, rfl, hbb, hl, hg, hh, hd3⟩
  have hs := ScB.init (cap := cap) 26 hc h0 hd3 hbb hl hg
  have hbw := hs.hb
  clear h0 hd0 hc hd3 hbb hg
  generalize hG : w3.heap.size = G at *
  have hcG := hs.cG
  go_wp2_with fail
  generalize w3.alloc (.cells #[.slice (some ⟨b, 0, none⟩) l.length cap] 26) = wr at *
  clear hG
  refine (l3Set_any C b 0 cap l _ hs.dr.cur (by omega) hs.hg).mono ?_; rintro e w4 ⟨x, rfl, hx, hd4⟩
  have hs4 := hs.drew hd4
  clear hs hd4 hcG
  have hcG := hs4.cG
  go_wp2_with fail
  refine (sIsSet_any b 0 cap l x _ (by omega) hs4.hg).mono ?_; rintro e w5 ⟨rfl, hb5⟩
  have hs5 := hs4.step hb5
  clear hs4 hb5 hcG
  have hcG := hs5.cG
  cases h1 : isSetB l x
  · skip
    obtain ⟨v0, hcR0⟩ := hs5.cR
    have hfR := hs5.fR
    have hfin := hs5.fin (.slice (some ⟨b, 0, none⟩) l.length cap)
    have hcR := hfin.1
    clear hs5
    go_wp2_with fail
    refine bodyPost_ret (v := .tuple #[.agg #[.slice (some ⟨b, 0, none⟩) l.length cap], .int .i64 x]) (by simp [results, Try.results189, go_sem, hcR]) rfl ?_
    exact ⟨b, cap, l, x, rfl, by omega, hl, hfin.2.1, hx, hfin.2.2⟩
  · go_wp2_with fail
    refine (sIsSubgroup_any b 0 cap l h _ (by omega) hs5.hg).mono ?_; rintro e w6 ⟨rfl, hb6⟩
    have hs6 := hs5.step hb6
    clear hs5 hb6 hcG
    have hcG := hs6.cG
    cases h2 : subB l h
    · skip
      obtain ⟨v0, hcR0⟩ := hs6.cR
      have hfR := hs6.fR
      have hfin := hs6.fin (.slice (some ⟨b, 0, none⟩) l.length cap)
      have hcR := hfin.1
      clear hs6
      go_wp2_with fail
      refine bodyPost_ret (v := .tuple #[.agg #[.slice (some ⟨b, 0, none⟩) l.length cap], .int .i64 x]) (by simp [results, Try.results189, go_sem, hcR]) rfl ?_
      exact ⟨b, cap, l, x, rfl, by omega, hl, hfin.2.1, hx, hfin.2.2⟩
    · go_wp2_with fail
      refine (l1Once_any C 2 _ (by omega) (by omega) hs6.dr.cur).mono ?_; rintro e w7 ⟨t, rfl, hd7⟩
      have hs7 := hs6.drew hd7
      clear hs6 hd7 hcG
      have hcG := hs7.cG
      cases t
      · skip
        obtain ⟨v0, hcR0⟩ := hs7.cR
        have hfR := hs7.fR
        have hfin := hs7.fin (.slice (some ⟨b, 0, none⟩) l.length cap)
        have hcR := hfin.1
        clear hs7
        go_wp2_with fail
        refine bodyPost_ret (v := .tuple #[.agg #[.slice (some ⟨b, 0, none⟩) l.length cap], .int .i64 x]) (by simp [results, Try.results189, go_sem, hcR]) rfl ?_
        exact ⟨b, cap, l, x, rfl, by omega, hl, hfin.2.1, hx, hfin.2.2⟩
      · obtain ⟨m, X, hm, rfl, rfl, hX0⟩ := isSetB_iff.1 h1
        have hX := hm.lt24 hX0
        obtain ⟨H, rfl, hH⟩ := subB_nat h2
        clear hX0
        have hsx : sumN m X H < 16777216 := hm.lt24 (hm.sum_lt _ _)
        clear h1 h2
        go_wp2_with fail
        have hs1 := hs7.drw.hold
        go_region_held3 (fun w' => w'.cell? ⟨G, 0, none⟩ = some (.slice (some ⟨b, 0, none⟩) (cst m).length cap) ∧ w'.cell? ⟨w.heap.size, 0, none⟩ = some (atR w' w.heap.size) ∧ w'.frozen? ⟨w.heap.size, 0, none⟩ = false ∧ ScB w C G b cap (cst m) w') (first | exact hs1 | exact (ScB.step (ScB.of (by assumption)) hb8).hold | exact (ScB.setR (ScB.of (by assumption)) _).hold | assumption)
          (first | (go_at_call 117; refine (l4Sum_any b 0 cap m X H _ hm hX hH (ScB.of (by assumption)).hg).mono ?_; rintro e w8 ⟨rfl, hb8⟩))
        have hfin := (ScB.step (ScB.of hs1) hb8).fin (.slice (some ⟨b, 0, none⟩) (cst m).length cap)
        have hcR := hfin.1
        go_wp2
        refine bodyPost_ret (v := .tuple #[.agg #[.slice (some ⟨b, 0, none⟩) (cst m).length cap], .int .i64 (sumN m X H : Nat)]) (by simp [results, Try.results189, go_sem, hcR]) rfl ?_
        exact ⟨b, cap, _, _, rfl, by omega, hl, hfin.2.1, I64_nat (by omega), hfin.2.2⟩

end Go.Proofs.Ytpflnmcecnbilaa
