/-
  Contracts: how many pairs have each difference.
-/
import Derived.Test.YtggjbicllnppkaaTable
import Derived.Test.YtggjbicllnppkaaStab
import Derived.Test.YtggjbicllnppkaaLaw1
namespace Go.Proofs.Ytggjbicllnppkaa
open Go.RowKit

theorem St.belowOf {w wr : World} {b off cap : Nat} {l : List Int} (h : wr.cell? ⟨w.heap.size, 0, none⟩ = some (.slice (some ⟨b, off, none⟩) l.length cap) ∧ St w b off cap l wr) : Below w.heap.size w wr := h.2.below
def corF (l : List Int) (a b : Int) : List Int := if two l a b = true then cst (tabN (toN l) a.toNat (oppN (toN l) b.toNat)) else []
theorem corF_yes {m : List Nat} {A B : Nat} (hm : Ok m) (hA : A < 2 ^ prodN m) (hB : B < 2 ^ prodN m) : corF (cst m) A B = cst (tabN m A (oppN m B)) := by
  unfold corF; rw [if_pos (two_iff.2 ⟨m, A, B, hm, rfl, rfl, rfl, hA, hB⟩), toN_cst, Int.toNat_natCast, Int.toNat_natCast]
theorem corF_no {l : List Int} {a b : Int} (h : two l a b = false) : corF l a b = [] := by unfold corF; rw [if_neg (by simp [h])]
theorem tabN_len (m : List Nat) (A B : Nat) : (tabN m A B).length = prodN m := cntTo_len _ _
theorem corF_len (l : List Int) (a b : Int) : (corF l a b).length ≤ 1048576 := by
  by_cases h : two l a b = true
  · obtain ⟨m, A, B, hm, rfl, rfl, rfl, hA, hB⟩ := two_iff.1 h
    rw [corF_yes hm hA hB, cst_length, tabN_len]; have := hm.ord; omega
  · rw [corF_no (by simpa using h)]; simp
set_option maxHeartbeats 400000 in
theorem correlationOf_any (b off cap : Nat) (l : List Int) (x y : Int) (w : World) (hl : l.length ≤ 1099511627776) (hg : GrpAt w b off l) :
    Calls Try.prog 42 #[.agg #[.slice (some ⟨b, off, none⟩) l.length cap], .int .i64 x, .int .i64 y] w (RetInts w (corF l x y)) := by
  have hst := St.init cap 27 hg
  have hst1 := hst.step ((Below.refl _ _).alloc (Nat.le_refl _) (.cells #[.int .i64 x, .int .i64 y] 3))
  have hg2 := GrpAt.two (w.alloc (.cells #[.slice (some ⟨b, off, none⟩) l.length cap] 27)) x y 3 (w.heap.size + 1) (by simp)
  by_cases h : two l x y = true
  · have h2 := two_iff.1 h
    obtain ⟨m, A, B, hm, rfl, rfl, rfl, hA, hB⟩ := h2
    rw [corF_yes hm hA hB]
    have hA' := Nat.lt_of_lt_of_le hA hm.pow_le
    have hB' := Nat.lt_of_lt_of_le hB hm.pow_le
    have hop := hm.opp_lt B
    go_enter Try.func42, Try.ntmps42
    go_wp2_with fail
    refine (areSets_two _ _ _ _ _ _ _ _ _ hl hst1.grp hg2).mono ?_; rintro e w1 ⟨rfl, hb1⟩; have hst2 := hst1.step hb1; have hst3 := hst2.drew; have hbox3 := hst3.box
    clear hst hst1 hg2 hb1 hst2
    go_wp2
    go_region_held3 (fun w' => w'.cell? ⟨w.heap.size, 0, none⟩ = some (.slice (some ⟨b, off, none⟩) (cst m).length cap) ∧ St w b off cap (cst m) w') (first | exact ⟨hst3.box, hst3⟩ | exact St.keep (by assumption) hb2 | exact St.keep (by assumption) hm3.below)
      (first | (go_at_call 83; refine (opposite_any _ _ _ _ _ _ hm hB' (St.grpOf (by assumption))).mono ?_; rintro e w2 ⟨rfl, hb2⟩) | (go_at_call 82; refine (sumTable_yes _ _ _ _ _ _ _ hm hA hop (St.grpOf (by assumption))).mono ?_; rintro e w3 ⟨g3, c3, rfl, hm3⟩; have hmF := hm3.since (w := w) (St.belowOf (b := b) (off := off) (cap := cap) (l := cst m) (by assumption))))
    go_wp2
    go_ret
    exact ⟨g3, c3, rfl, hmF⟩
  · have hn : two l x y = false := by simpa using h
    rw [corF_no hn]
    go_enter Try.func42, Try.ntmps42
    go_wp2_with fail
    refine (areSets_two _ _ _ _ _ _ _ _ _ hl hst1.grp hg2).mono ?_; rintro e w1 ⟨rfl, hb1⟩; have hst2 := hst1.step hb1
    clear h hst hst1 hg2 hb1 hg
    have hfin := hid (Growing.start hst2.below hst2.below.size #[] rfl)
    go_wp2
    go_ret
    exact hfin.out.ret
set_option maxHeartbeats 400000 in
theorem sCorrelationOf_any (b off cap : Nat) (l : List Int) (x y : Int) (w : World) (hl : l.length ≤ 1099511627776) (hg : GrpAt w b off l) :
    Calls Try.prog 41 #[.agg #[.slice (some ⟨b, off, none⟩) l.length cap], .int .i64 x, .int .i64 y] w (RetInts w (corF l x y)) := by
  have hst := St.init cap 27 hg
  by_cases h : two l x y = true
  · obtain ⟨y1, y2⟩ := two_yes h
    have h2 := two_iff.1 h
    obtain ⟨m, A, B, hm, rfl, rfl, rfl, hA, hB⟩ := h2
    rw [corF_yes hm hA hB]
    have hA' := Nat.lt_of_lt_of_le hA hm.pow_le
    have hB' := Nat.lt_of_lt_of_le hB hm.pow_le
    have hop := hm.opp_lt B
    clear h
    go_enter Try.func41, Try.ntmps41
    go_wp2_with fail
    refine (sIsSet_any _ _ _ _ _ _ hl hst.grp).mono ?_; rintro e w1 ⟨rfl, hb1⟩; have hst1 := hst.step hb1; have hbox1 := hst1.box
    go_wp2_with fail
    refine (sIsSet_any _ _ _ _ _ _ hl hst1.grp).mono ?_; rintro e w2 ⟨rfl, hb2⟩; have hst3 := (hst1.step hb2).drew; have hbox3 := hst3.box
    clear hst hst1 hb1 hb2
    go_wp2
    go_region_held3 (fun w' => w'.cell? ⟨w.heap.size, 0, none⟩ = some (.slice (some ⟨b, off, none⟩) (cst m).length cap) ∧ St w b off cap (cst m) w') (first | exact ⟨hst3.box, hst3⟩ | exact St.keep (by assumption) hb2 | exact St.keep (by assumption) hm3.below)
      (first | (go_at_call 81; refine (l3Negate_any _ _ _ _ _ _ hm hB' (St.grpOf (by assumption))).mono ?_; rintro e w2 ⟨rfl, hb2⟩) | (go_at_call 80; refine (sSumTable_yes _ _ _ _ _ _ _ hm hA hop (St.grpOf (by assumption))).mono ?_; rintro e w3 ⟨g3, c3, rfl, hm3⟩; have hmF := hm3.since (w := w) (St.belowOf (b := b) (off := off) (cap := cap) (l := cst m) (by assumption))))
    go_wp2
    go_ret
    exact ⟨g3, c3, rfl, hmF⟩
  · have hn : two l x y = false := by simpa using h
    rw [corF_no hn]
    clear h
    rcases two_no hn with h1 | ⟨h1, h2⟩
    all_goals
      go_enter Try.func41, Try.ntmps41
      go_wp2_with (first | (go_at_call 48; refine (sIsSet_any _ _ _ _ _ _ hl (St.grp (by assumption))).mono ?_; rintro e wN ⟨rfl, hbN⟩; have hstN := St.step (by assumption) hbN; have hboxN := hstN.box; clear hbN))
      have hfin := hid (Growing.start (w := w) (w0 := wN) (St.below (by assumption)) (Below.size (St.below (by assumption))) #[] rfl)
      go_ret
      exact hfin.out.ret
end Go.Proofs.Ytggjbicllnppkaa
