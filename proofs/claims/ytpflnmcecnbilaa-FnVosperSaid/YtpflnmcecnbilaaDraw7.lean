/-
  Contracts of the reference's drawing: groups of prime order with sets in progression.
-/
import Derived.Test.YtpflnmcecnbilaaDraw5
import Derived.Test.YtpflnmcecnbilaaPro
import Derived.Deep.Cut
namespace Go.Proofs.Ytpflnmcecnbilaa
open Go.RowKit

/-- inside a function that draws by a cursor that came in: the result's cell, the box G of the group drawn -/
structure ScB (w : World) (C G b cap : Nat) (l : List Int) (wr : World) : Prop where
  dr : Drew w C wr
  hC : C < w.heap.size
  cR : ∃ v, wr.cell? ⟨w.heap.size, 0, none⟩ = some v
  fR : wr.frozen? ⟨w.heap.size, 0, none⟩ = false
  lR : w.heap.size < wr.heap.size
  hG : w.heap.size < G
  lG : G < wr.heap.size
  cG : wr.cell? ⟨G, 0, none⟩ = some (.slice (some ⟨b, 0, none⟩) l.length cap)
  hb : w.heap.size < b
  hl : l.length ≤ 4
  hg : GrpAt wr b 0 l
section
variable {w wr w0 w1 w3 : World} {C G b cap : Nat} {l : List Int}
theorem ScB.drew (h : ScB w C G b cap l wr) (hd : Drew wr C w1) : ScB w C G b cap l w1 := by
  have h1 := h.hC; have h2 := h.hG; have h3 := h.hb
  refine ⟨h.dr.trans hd, h.hC, ?_, ?_, Nat.lt_of_lt_of_le h.lR hd.gr.size, h.hG, Nat.lt_of_lt_of_le h.lG hd.gr.size, ?_, h.hb, h.hl, hd.grp h.hg (by omega)⟩
  · obtain ⟨v, hv⟩ := h.cR; exact ⟨v, (hd.at (b := w.heap.size) (j := 0) h.lR (by omega)).trans hv⟩
  · exact (hd.fz (b := w.heap.size) (j := 0) h.lR (by omega)).trans h.fR
  · exact (hd.at (b := G) (j := 0) h.lG (by omega)).trans h.cG
theorem ScB.step (h : ScB w C G b cap l wr) (hb : Below wr.heap.size wr w1) : ScB w C G b cap l w1 := h.drew ((Drew.refl h.dr.cur).step hb)
theorem ScB.drw (h : ScB w C G b cap l wr) : ScB w C G b cap l wr.drew := h.step (Below.refl _ _).drew
theorem ScB.setR (h : ScB w C G b cap l wr) (v : Value) : ScB w C G b cap l (wr.setCell ⟨w.heap.size, 0, none⟩ v) := by
  have h1 := h.hC; have h2 := h.hG; have h3 := h.hb
  have e : ∀ k j, k ≠ w.heap.size → (wr.setCell ⟨w.heap.size, 0, none⟩ v).cell? ⟨k, j, none⟩ = wr.cell? ⟨k, j, none⟩ := fun k j hk => World.cell?_of_block (Below.heap_setCell _ _ _ _ hk)
  refine ⟨h.dr.setCell h.hC (Nat.le_refl _) v, h.hC, ?_, by simpa using h.fR, by simpa using h.lR, h.hG, by simpa using h.lG, (e G 0 (by omega)).trans h.cG, h.hb, h.hl, h.hg.setCell (by omega) v⟩
  obtain ⟨u, hu⟩ := h.cR; exact ⟨v, setC_eq hu⟩
theorem ScB.hold (h : ScB w C G b cap l wr) : wr.cell? ⟨G, 0, none⟩ = some (.slice (some ⟨b, 0, none⟩) l.length cap) ∧ wr.cell? ⟨w.heap.size, 0, none⟩ = some (atR wr w.heap.size) ∧ wr.frozen? ⟨w.heap.size, 0, none⟩ = false ∧ ScB w C G b cap l wr :=
  ⟨h.cG, by obtain ⟨v, hv⟩ := h.cR; unfold atR; rw [hv]; rfl, h.fR, h⟩
theorem ScB.fin (h : ScB w C G b cap l wr) (v : Value) : (wr.setCell ⟨w.heap.size, 0, none⟩ v).cell? ⟨w.heap.size, 0, none⟩ = some v ∧ GrpAt (wr.setCell ⟨w.heap.size, 0, none⟩ v) b 0 l ∧ Drew w C (wr.setCell ⟨w.heap.size, 0, none⟩ v) := by
  obtain ⟨u, hu⟩ := h.cR
  exact ⟨setC_eq hu, (h.setR v).hg, (h.setR v).dr⟩
theorem ScB.of {X Y Z : Prop} (h : X ∧ Y ∧ Z ∧ ScB w C G b cap l wr) : ScB w C G b cap l wr := h.2.2.2
/-- the beginning: the result's cell, the group drawn and boxed -/
theorem ScB.init (t : TypeId) (hc : Cur w C) (h0 : w.alloc (.cells #[.slice none 0 0] t) = w0) (hd : Drew w0 C w3) (hbb : w0.heap.size ≤ b) (hl : l.length ≤ 4) (hg : GrpAt w3 b 0 l) :
    ScB w C w3.heap.size b cap l (w3.alloc (.cells #[.slice (some ⟨b, 0, none⟩) l.length cap] t)) := by
  have hs0 : w0.heap.size = w.heap.size + 1 := by rw [← h0]; simp
  have hC := hc.lt
  have hd0 : Drew w C w0 := by rw [← h0]; exact (Drew.refl hc).alloc _
  have c0 : w0.cell? ⟨w.heap.size, 0, none⟩ = some (.slice none 0 0) := by rw [← h0]; exact box_new _ _ _
  have f0 : w0.frozen? ⟨w.heap.size, 0, none⟩ = false := by rw [← h0, World.frozen?_alloc_at _ _ _ _ rfl]
  have hs3 := hd.gr.size
  have c3 := (hd.at (b := w.heap.size) (j := 0) (by omega) (by omega)).trans c0
  have f3 := (hd.fz (b := w.heap.size) (j := 0) (by omega) (by omega)).trans f0
  exact ⟨(hd0.trans hd).alloc _, hC, ⟨_, cell_alloc c3 (by omega) _⟩, by rw [frozen?_alloc_cells]; exact f3, by simp; omega, by omega, by simp, box_new _ _ _, by omega, hl, hg.alloc _⟩
end
def DrewG1 (w : World) (C : Nat) (e : Ending) (w' : World) : Prop := ∃ b cap l x1, e = .returned (.tuple #[.agg #[.slice (some ⟨b, 0, none⟩) (l : List Int).length cap], .int .i64 x1]) ∧ w.heap.size ≤ b ∧ l.length ≤ 4 ∧ GrpAt w' b 0 l ∧ I64 x1 ∧ Drew w C w'
def DrewG2 (w : World) (C : Nat) (e : Ending) (w' : World) : Prop := ∃ b cap l x1 x2, e = .returned (.tuple #[.agg #[.slice (some ⟨b, 0, none⟩) (l : List Int).length cap], .int .i64 x1, .int .i64 x2]) ∧ w.heap.size ≤ b ∧ l.length ≤ 4 ∧ GrpAt w' b 0 l ∧ I64 x1 ∧ I64 x2 ∧ Drew w C w'
set_option maxHeartbeats 1000000 in
theorem l10Prime_any (C : Nat) (w : World) (hc : Cur w C) :
    Calls Try.prog 190 #[.pointer (some ⟨C, 0, none⟩)] w (DrewG w C) := by
  have hCw := hc.lt
  have hd0 := (Drew.refl hc).alloc (.cells #[.slice none 0 0] 26)
  have hc0 : (w.alloc (.cells #[.slice none 0 0] 26)).cell? ⟨w.heap.size, 0, none⟩ = some (.slice none 0 0) := box_new _ _ _
  have hf0 : (w.alloc (.cells #[.slice none 0 0] 26)).frozen? ⟨w.heap.size, 0, none⟩ = false := by rw [World.frozen?_alloc_at _ _ _ _ rfl]
  have hs0 : (w.alloc (.cells #[.slice none 0 0] 26)).heap.size = w.heap.size + 1 := by simp
  go_enter Try.func190, Try.ntmps190
  go_wp2_with fail
  refine (l1Once_any C 8 _ (by omega) (by omega) hd0.cur).mono ?_; rintro e w1 ⟨t, rfl, hd1⟩
  have hc1 := (hd1.at (b := w.heap.size) (j := 0) (by omega) (by omega)).trans hc0
  have hf1 := (hd1.fz (b := w.heap.size) (j := 0) (by omega) (by omega)).trans hf0
  have hd2 := hd0.trans hd1
  have hs1 := hd1.gr.size
  rw [hs0] at hs1
  have hlt1 : w.heap.size < w1.heap.size := by omega
  clear hc0 hf0 hs0 hd0 hd1
  cases t
  · have hgp := grp_new w1 [2, 3, 5, 7, 11, 13] 3
    have hd4 := hd2.alloc (.cells #[.int .i64 2, .int .i64 3, .int .i64 5, .int .i64 7, .int .i64 11, .int .i64 13] 3)
    have hc4 := cell_alloc hc1 hlt1 (.cells #[.int .i64 2, .int .i64 3, .int .i64 5, .int .i64 7, .int .i64 11, .int .i64 13] 3)
    have hf4 : (w1.alloc (.cells #[.int .i64 2, .int .i64 3, .int .i64 5, .int .i64 7, .int .i64 11, .int .i64 13] 3)).frozen? ⟨w.heap.size, 0, none⟩ = false := by rw [frozen?_alloc_cells]; exact hf1
    have hs4 : (w1.alloc (.cells #[.int .i64 2, .int .i64 3, .int .i64 5, .int .i64 7, .int .i64 11, .int .i64 13] 3)).heap.size = w1.heap.size + 1 := by simp
    go_wp2_with fail
    refine (l1PickInt_any C w1.heap.size 6 [2, 3, 5, 7, 11, 13] _ (by simp) (by simp) hd4.cur hgp (by omega)).mono ?_; rintro e w5 ⟨k, hk, rfl, hd5⟩
    generalize ([2, 3, 5, 7, 11, 13] : List Int).getD k 0 = x
    have hc5 := (hd5.at (b := w.heap.size) (j := 0) (by omega) (by omega)).trans hc4
    have hf5 := (hd5.fz (b := w.heap.size) (j := 0) (by omega) (by omega)).trans hf4
    have hs5 := hd5.gr.size
    have hlt5 : w.heap.size < w5.heap.size := by omega
    have hfin := DrewG.fresh (hd4.trans hd5) hCw (Nat.le_refl _) [x] (by simp) 3 (.slice (some ⟨w5.heap.size, 0, none⟩) 1 1) (by omega) hc5
    have hfc : ((w5.setCell ⟨w.heap.size, 0, none⟩ (.slice (some ⟨w5.heap.size, 0, none⟩) 1 1)).alloc (.cells #[.int .i64 x] 3)).cell? ⟨w.heap.size, 0, none⟩ = some (.slice (some ⟨w5.heap.size, 0, none⟩) 1 1) := hfin.2
    clear hgp hc4 hf4 hd4 hd5 hc1 hf1 hs4 hs5 hd2
    go_wp2_with fail
    refine bodyPost_ret (v := .agg #[.slice (some ⟨w5.heap.size, 0, none⟩) 1 1]) (by simp [results, Try.results190, go_sem, hfc]) rfl hfin.1
  · go_wp2_with fail
    refine (l2Any_any C w1 hd2.cur).mono ?_; rintro e w3 ⟨b, cap, l, rfl, hb, hl, hg, hd3⟩
    have hc3 := (hd3.at (b := w.heap.size) (j := 0) (by omega) (by omega)).trans hc1
    have hf3 := (hd3.fz (b := w.heap.size) (j := 0) (by omega) (by omega)).trans hf1
    have hfin := (hd2.trans hd3).store hCw (R := w.heap.size) (Nat.le_refl _) (b := b) (cap := cap) (by omega) hl hg (by omega) (.slice (some ⟨b, 0, none⟩) l.length cap)
    clear hc1 hf1 hd2 hd3 hg
    go_wp2_with fail
    refine bodyPost_ret (v := .agg #[.slice (some ⟨b, 0, none⟩) l.length cap]) (by simp [results, Try.results190, go_sem, hc3]) rfl hfin
theorem progF_I64 (l : List Int) (s d n : Int) : I64 (progF l s d n) := by
  by_cases h : progOk l s d n = true
  · obtain ⟨m, S, D, N, hm, rfl, rfl, rfl, rfl, hS, hD, hN⟩ := progOk_iff.1 h
    unfold progF; rw [if_pos h]
    have h1 := ofL_bound (progTo_24 hm (d := D) hS N)
    rw [toN_cst, Int.toNat_natCast, Int.toNat_natCast, Int.toNat_natCast]
    exact I64_nat (by omega)
  · unfold progF; rw [if_neg h]; exact ⟨by omega, by omega⟩
set_option maxRecDepth 4000 in
set_option maxHeartbeats 4000000 in
theorem l10Set_any (C : Nat) (w : World) (hc : Cur w C) :
    Calls Try.prog 177 #[.pointer (some ⟨C, 0, none⟩)] w (DrewG2 w C) := by
  have hCw := hc.lt
  have hd0 := (Drew.refl hc).alloc (.cells #[.slice none 0 0] 26)
  go_enter Try.func177, Try.ntmps177
  go_wp2_with fail
  generalize h0 : w.alloc (.cells #[.slice none 0 0] 26) = w0 at *
  refine (l10Prime_any C w0 hd0.cur).mono ?_; rintro e w3 ⟨b, cap, l, rfl, hbb, hl, hg, hd3⟩
  have hs := ScB.init (cap := cap) 26 hc h0 hd3 hbb hl hg
  have hbw := hs.hb
  clear h0 hd0 hc hd3 hbb hg
  generalize hG : w3.heap.size = G at *
  have hcG := hs.cG
  go_upto_region 2 with fail
  generalize w3.alloc (.cells #[.slice (some ⟨b, 0, none⟩) l.length cap] 26) = wr at *
  clear hG
  go_cut [6] from 10 (fun s w' => ∃ N : Nat, s = .int .i64 N ∧ 1 ≤ N ∧ N ≤ 24 ∧ ScB w C G b cap l w')
  case first =>
    go_wp2_with fail
    refine (sOrderOf_any b 0 cap l wr (by omega) hs.hg).mono ?_; rintro e w4 ⟨rfl, hb4⟩
    have hs4 := hs.step hb4
    have hle := ordN_le l
    clear hs hb4 hcG
    by_cases h1 : 1 < ordN l
    · have h1I : (1 : Int) < (ordN l : Int) := by omega
      go_wp2_with fail
      go_meet
      case rel => exact ⟨ordN l, rfl, by omega, hle, hs4⟩
    · have h1I : (ordN l : Int) ≤ 1 := by omega
      go_wp2_with fail
      go_meet
      case rel => exact ⟨1, rfl, by omega, by omega, hs4⟩
  case rest =>
    obtain ⟨N, rfl, hN1, hN2, hs5⟩ := hcut
    clear hs hcG
    go_wp2_with fail
    refine (l1Below_any C N wc (by omega) (by omega) hs5.dr.cur).mono ?_; rintro e w6 ⟨d, hd, rfl, hd6⟩
    have hs6 := hs5.drew hd6
    clear hs5 hd6
    go_wp2_with fail
    go_cut [8] from 10 (fun s w' => ∃ x, s = .int .i64 x ∧ I64 x ∧ ScB w C G b cap l w')
    case first =>
      have hwn : IntKind.i64.wrap ((N : Int) + 1) = ((N + 1 : Nat) : Int) := by rw [IntKind.wrap_i64]; omega
      have hS0 := hs6.drw.hold
      clear hs6
      obtain ⟨M, hM, hM1, hM2⟩ : ∃ M : Nat, (if (6 : Int) ≤ ((N + 1 : Nat) : Int) then (6 : Int) else ((N + 1 : Nat) : Int)) = (M : Int) ∧ 1 ≤ M ∧ M ≤ 6 := by
        by_cases h : 6 ≤ N + 1
        · exact ⟨6, by rw [if_pos (by omega)]; rfl, by omega, by omega⟩
        · exact ⟨N + 1, by rw [if_neg (by omega)], by omega, by omega⟩
      have hcase : (6 : Nat) ≤ N + 1 ∨ N + 1 < 6 := by omega
      rcases hcase with hcase | hcase
      · have hI : (6 : Int) ≤ ((N + 1 : Nat) : Int) := by omega
        refine wp_region_held_drew (S := fun w' => w'.cell? ⟨G, 0, none⟩ = some (.slice (some ⟨b, 0, none⟩) l.length cap) ∧ w'.cell? ⟨w.heap.size, 0, none⟩ = some (atR w' w.heap.size) ∧ w'.frozen? ⟨w.heap.size, 0, none⟩ = false ∧ ScB w C G b cap l w') (by kernel_rfl) hS0 (fun hHeld => ?_)
        (refine wpAnyH_take (i := 0) (oi := ?oi1) (v := ?v1) ?hi1 (by kernel_rfl) (by kernel_rfl) (by kernel_rfl) ?hq1 ?hy1 (by assumption) ?hr1; (case hi1 => ((simp only [List.getElem?_toArray, List.getElem?_cons_zero]); exact rfl)); (case hq1 => exact fun _ _ _ h => h); (case hy1 => (refine Or.inl ⟨by rfl, ?_⟩; (intro w hSw); (try dsimp only at hSw); go_simp; (try with_reducible rfl))); (try simp only [Act.put, List.setIfInBounds_toArray, List.set_cons_zero, List.set_cons_succ])); (refine wpAnyH_take (i := 1) (oi := ?oi2) (v := ?v2) ?hi2 (by kernel_rfl) (by kernel_rfl) (by kernel_rfl) ?hq2 ?hy2 (by assumption) ?hr2; (case hi2 => ((simp only [List.getElem?_toArray, List.getElem?_cons_zero, List.getElem?_cons_succ]); exact rfl)); (case hq2 => exact fun _ _ _ h => h); (case hy2 => (refine Or.inl ⟨by rfl, ?_⟩; (intro w hSw); (try dsimp only at hSw); go_simp; (try with_reducible rfl))); (try simp only [Act.put, List.setIfInBounds_toArray, List.set_cons_zero, List.set_cons_succ])); (refine wpAnyH_take (i := 2) (oi := ?oi3) (v := ?v3) ?hi3 (by kernel_rfl) (by kernel_rfl) (by kernel_rfl) ?hq3 ?hy3 (by assumption) ?hr3; (case hi3 => ((simp only [List.getElem?_toArray, List.getElem?_cons_zero, List.getElem?_cons_succ]); exact rfl)); (case hq3 => exact fun _ _ _ h => h); (case hy3 => (refine Or.inl ⟨by rfl, ?_⟩; (intro w hSw); (try dsimp only at hSw); go_simp; (try with_reducible rfl))); (try simp only [Act.put, List.setIfInBounds_toArray, List.set_cons_zero, List.set_cons_succ]))
        (refine wpAnyH_take (i := 4) (oi := ?oi4) (v := ?v4) ?hi4 (by kernel_rfl) (by kernel_rfl) (by kernel_rfl) ?hq4 ?hy4 (by assumption) ?hr4; (case hi4 => ((simp only [List.getElem?_toArray, List.getElem?_cons_zero, List.getElem?_cons_succ]); exact rfl)); (case hq4 => exact fun _ _ _ h => h); (case hy4 => (refine Or.inl ⟨by rfl, ?_⟩; (intro w hSw); (try dsimp only at hSw); go_simp; (try with_reducible rfl))); (try simp only [Act.put, List.setIfInBounds_toArray, List.set_cons_zero, List.set_cons_succ])); (refine wpAnyH_take (i := 5) (oi := ?oi5) (v := ?v5) ?hi5 (by kernel_rfl) (by kernel_rfl) (by kernel_rfl) ?hq5 ?hy5 (by assumption) ?hr5; (case hi5 => ((simp only [List.getElem?_toArray, List.getElem?_cons_zero, List.getElem?_cons_succ]); exact rfl)); (case hq5 => exact fun _ _ _ h => h); (case hy5 => (refine Or.inl ⟨by rfl, ?_⟩; (intro w hSw); (try dsimp only at hSw); go_simp; (try with_reducible rfl))); (try simp only [Act.put, List.setIfInBounds_toArray, List.set_cons_zero, List.set_cons_succ])); (refine wpAnyH_take (i := 6) (oi := ?oi6) (v := ?v6) ?hi6 (by kernel_rfl) (by kernel_rfl) (by kernel_rfl) ?hq6 ?hy6 (by assumption) ?hr6; (case hi6 => ((simp only [List.getElem?_toArray, List.getElem?_cons_zero, List.getElem?_cons_succ]); exact rfl)); (case hq6 => exact fun _ _ _ h => h); (case hy6 => (refine Or.inl ⟨by rfl, ?_⟩; (intro w hSw); (try dsimp only at hSw); go_simp; (try with_reducible rfl))); (try simp only [Act.put, List.setIfInBounds_toArray, List.set_cons_zero, List.set_cons_succ])); (refine wpAnyH_take (i := 7) (oi := ?oi7) (v := ?v7) ?hi7 (by kernel_rfl) (by kernel_rfl) (by kernel_rfl) ?hq7 ?hy7 (by assumption) ?hr7; (case hi7 => ((simp only [List.getElem?_toArray, List.getElem?_cons_zero, List.getElem?_cons_succ]); exact rfl)); (case hq7 => exact fun _ _ _ h => h); (case hy7 => (refine Or.inl ⟨by rfl, ?_⟩; (intro w hSw); (try dsimp only at hSw); go_simp; (try with_reducible rfl))); (try simp only [Act.put, List.setIfInBounds_toArray, List.set_cons_zero, List.set_cons_succ])); (refine wpAnyH_take (i := 8) (oi := ?oi8) (v := ?v8) ?hi8 (by kernel_rfl) (by kernel_rfl) (by kernel_rfl) ?hq8 ?hy8 (by assumption) ?hr8; (case hi8 => ((simp only [List.getElem?_toArray, List.getElem?_cons_zero, List.getElem?_cons_succ]); exact rfl)); (case hq8 => exact fun _ _ _ h => h); (case hy8 => (refine Or.inl ⟨by rfl, ?_⟩; (intro w hSw); (try dsimp only at hSw); go_simp; (try with_reducible rfl))); (try simp only [Act.put, List.setIfInBounds_toArray, List.set_cons_zero, List.set_cons_succ]))
        refine wpAnyH_ready (rs := [3]) (by kernel_rfl) (by simp) ?_; refine AllReadyH.cons rfl (fun K hK => ?_) AllReadyH.nil; go_simp
        (go_at_call 125; refine (l1Below_any C N _ (by omega) (by omega) (ScB.of hHeld).dr.cur).mono ?_; rintro e v1 ⟨z1, hz1, rfl, he1⟩)
        go_wp2_with fail
        refine hK.out _ _ ?ks (fun hHeld => ?_); (case ks => (exact ((ScB.of hHeld).drew he1).hold)); clear hK K; (try simp only [Act.put, List.setIfInBounds_toArray, List.set_cons_zero, List.set_cons_succ])
        clear he1
        refine wpAnyH_ready (rs := [9]) (by kernel_rfl) (by simp) ?_; refine AllReadyH.cons rfl (fun K hK => ?_) AllReadyH.nil; go_simp
        (go_at_call 125; refine (l1Below_any C 6 _ (by omega) (by omega) (ScB.of hHeld).dr.cur).mono ?_; rintro e v2 ⟨z2, hz2, rfl, he2⟩)
        go_wp2_with fail
        refine hK.out _ _ ?ks (fun hHeld => ?_); (case ks => (exact ((ScB.of hHeld).drew he2).hold)); clear hK K; (try simp only [Act.put, List.setIfInBounds_toArray, List.set_cons_zero, List.set_cons_succ])
        clear he2
        refine wpAnyH_ready (rs := [10]) (by kernel_rfl) (by simp) ?_; refine AllReadyH.cons rfl (fun K hK => ?_) AllReadyH.nil; go_simp
        (go_at_call 49; refine (sProgressionSet_any b 0 cap l _ _ _ _ (by omega) (ScB.of hHeld).hg).mono ?_; rintro e v3 ⟨rfl, he3⟩)
        go_wp2_with fail
        refine hK.out _ _ ?ks (fun hHeld => ?_); (case ks => (exact ((ScB.of hHeld).step he3).hold)); clear hK K; (try simp only [Act.put, List.setIfInBounds_toArray, List.set_cons_zero, List.set_cons_succ])
        clear he3
        (refine wpAnyH_take (i := 11) (oi := ?oi9) (v := ?v9) ?hi9 (by kernel_rfl) (by kernel_rfl) (by kernel_rfl) ?hq9 ?hy9 (by assumption) ?hr9; (case hi9 => ((simp only [List.getElem?_toArray, List.getElem?_cons_zero, List.getElem?_cons_succ]); exact rfl)); (case hq9 => exact fun _ _ _ h => h); (case hy9 => (refine Or.inl ⟨by rfl, ?_⟩; (intro w hSw); (try dsimp only at hSw); go_simp; (try with_reducible rfl))); (try simp only [Act.put, List.setIfInBounds_toArray, List.set_cons_zero, List.set_cons_succ]))
        refine wpAnyH_done (by kernel_rfl) ?_ _
        have hend := ScB.of hHeld
        go_wp2_with fail
        go_meet
        case rel => exact ⟨_, rfl, progF_I64 _ _ _ _, hend⟩
      · have hI : ((N + 1 : Nat) : Int) < 6 := by omega
        refine wp_region_held_drew (S := fun w' => w'.cell? ⟨G, 0, none⟩ = some (.slice (some ⟨b, 0, none⟩) l.length cap) ∧ w'.cell? ⟨w.heap.size, 0, none⟩ = some (atR w' w.heap.size) ∧ w'.frozen? ⟨w.heap.size, 0, none⟩ = false ∧ ScB w C G b cap l w') (by kernel_rfl) hS0 (fun hHeld => ?_)
        (refine wpAnyH_take (i := 0) (oi := ?oi10) (v := ?v10) ?hi10 (by kernel_rfl) (by kernel_rfl) (by kernel_rfl) ?hq10 ?hy10 (by assumption) ?hr10; (case hi10 => ((simp only [List.getElem?_toArray, List.getElem?_cons_zero]); exact rfl)); (case hq10 => exact fun _ _ _ h => h); (case hy10 => (refine Or.inl ⟨by rfl, ?_⟩; (intro w hSw); (try dsimp only at hSw); go_simp; (try with_reducible rfl))); (try simp only [Act.put, List.setIfInBounds_toArray, List.set_cons_zero, List.set_cons_succ])); (refine wpAnyH_take (i := 1) (oi := ?oi11) (v := ?v11) ?hi11 (by kernel_rfl) (by kernel_rfl) (by kernel_rfl) ?hq11 ?hy11 (by assumption) ?hr11; (case hi11 => ((simp only [List.getElem?_toArray, List.getElem?_cons_zero, List.getElem?_cons_succ]); exact rfl)); (case hq11 => exact fun _ _ _ h => h); (case hy11 => (refine Or.inl ⟨by rfl, ?_⟩; (intro w hSw); (try dsimp only at hSw); go_simp; (try with_reducible rfl))); (try simp only [Act.put, List.setIfInBounds_toArray, List.set_cons_zero, List.set_cons_succ])); (refine wpAnyH_take (i := 2) (oi := ?oi12) (v := ?v12) ?hi12 (by kernel_rfl) (by kernel_rfl) (by kernel_rfl) ?hq12 ?hy12 (by assumption) ?hr12; (case hi12 => ((simp only [List.getElem?_toArray, List.getElem?_cons_zero, List.getElem?_cons_succ]); exact rfl)); (case hq12 => exact fun _ _ _ h => h); (case hy12 => (refine Or.inl ⟨by rfl, ?_⟩; (intro w hSw); (try dsimp only at hSw); go_simp; (try with_reducible rfl))); (try simp only [Act.put, List.setIfInBounds_toArray, List.set_cons_zero, List.set_cons_succ]))
        (refine wpAnyH_take (i := 4) (oi := ?oi13) (v := ?v13) ?hi13 (by kernel_rfl) (by kernel_rfl) (by kernel_rfl) ?hq13 ?hy13 (by assumption) ?hr13; (case hi13 => ((simp only [List.getElem?_toArray, List.getElem?_cons_zero, List.getElem?_cons_succ]); exact rfl)); (case hq13 => exact fun _ _ _ h => h); (case hy13 => (refine Or.inl ⟨by rfl, ?_⟩; (intro w hSw); (try dsimp only at hSw); go_simp; (try with_reducible rfl))); (try simp only [Act.put, List.setIfInBounds_toArray, List.set_cons_zero, List.set_cons_succ])); (refine wpAnyH_take (i := 5) (oi := ?oi14) (v := ?v14) ?hi14 (by kernel_rfl) (by kernel_rfl) (by kernel_rfl) ?hq14 ?hy14 (by assumption) ?hr14; (case hi14 => ((simp only [List.getElem?_toArray, List.getElem?_cons_zero, List.getElem?_cons_succ]); exact rfl)); (case hq14 => exact fun _ _ _ h => h); (case hy14 => (refine Or.inl ⟨by rfl, ?_⟩; (intro w hSw); (try dsimp only at hSw); go_simp; (try with_reducible rfl))); (try simp only [Act.put, List.setIfInBounds_toArray, List.set_cons_zero, List.set_cons_succ])); (refine wpAnyH_take (i := 6) (oi := ?oi15) (v := ?v15) ?hi15 (by kernel_rfl) (by kernel_rfl) (by kernel_rfl) ?hq15 ?hy15 (by assumption) ?hr15; (case hi15 => ((simp only [List.getElem?_toArray, List.getElem?_cons_zero, List.getElem?_cons_succ]); exact rfl)); (case hq15 => exact fun _ _ _ h => h); (case hy15 => (refine Or.inl ⟨by rfl, ?_⟩; (intro w hSw); (try dsimp only at hSw); go_simp; (try with_reducible rfl))); (try simp only [Act.put, List.setIfInBounds_toArray, List.set_cons_zero, List.set_cons_succ])); (refine wpAnyH_take (i := 7) (oi := ?oi16) (v := ?v16) ?hi16 (by kernel_rfl) (by kernel_rfl) (by kernel_rfl) ?hq16 ?hy16 (by assumption) ?hr16; (case hi16 => ((simp only [List.getElem?_toArray, List.getElem?_cons_zero, List.getElem?_cons_succ]); exact rfl)); (case hq16 => exact fun _ _ _ h => h); (case hy16 => (refine Or.inl ⟨by rfl, ?_⟩; (intro w hSw); (try dsimp only at hSw); go_simp; (try with_reducible rfl))); (try simp only [Act.put, List.setIfInBounds_toArray, List.set_cons_zero, List.set_cons_succ])); (refine wpAnyH_take (i := 8) (oi := ?oi17) (v := ?v17) ?hi17 (by kernel_rfl) (by kernel_rfl) (by kernel_rfl) ?hq17 ?hy17 (by assumption) ?hr17; (case hi17 => ((simp only [List.getElem?_toArray, List.getElem?_cons_zero, List.getElem?_cons_succ]); exact rfl)); (case hq17 => exact fun _ _ _ h => h); (case hy17 => (refine Or.inl ⟨by rfl, ?_⟩; (intro w hSw); (try dsimp only at hSw); go_simp; (try with_reducible rfl))); (try simp only [Act.put, List.setIfInBounds_toArray, List.set_cons_zero, List.set_cons_succ]))
        refine wpAnyH_ready (rs := [3]) (by kernel_rfl) (by simp) ?_; refine AllReadyH.cons rfl (fun K hK => ?_) AllReadyH.nil; go_simp
        (go_at_call 125; refine (l1Below_any C N _ (by omega) (by omega) (ScB.of hHeld).dr.cur).mono ?_; rintro e v1 ⟨z1, hz1, rfl, he1⟩)
        go_wp2_with fail
        refine hK.out _ _ ?ks (fun hHeld => ?_); (case ks => (exact ((ScB.of hHeld).drew he1).hold)); clear hK K; (try simp only [Act.put, List.setIfInBounds_toArray, List.set_cons_zero, List.set_cons_succ])
        clear he1
        refine wpAnyH_ready (rs := [9]) (by kernel_rfl) (by simp) ?_; refine AllReadyH.cons rfl (fun K hK => ?_) AllReadyH.nil; go_simp
        (go_at_call 125; refine (l1Below_any C (N + 1) _ (by omega) (by omega) (ScB.of hHeld).dr.cur).mono ?_; rintro e v2 ⟨z2, hz2, rfl, he2⟩)
        go_wp2_with fail
        refine hK.out _ _ ?ks (fun hHeld => ?_); (case ks => (exact ((ScB.of hHeld).drew he2).hold)); clear hK K; (try simp only [Act.put, List.setIfInBounds_toArray, List.set_cons_zero, List.set_cons_succ])
        clear he2
        refine wpAnyH_ready (rs := [10]) (by kernel_rfl) (by simp) ?_; refine AllReadyH.cons rfl (fun K hK => ?_) AllReadyH.nil; go_simp
        (go_at_call 49; refine (sProgressionSet_any b 0 cap l _ _ _ _ (by omega) (ScB.of hHeld).hg).mono ?_; rintro e v3 ⟨rfl, he3⟩)
        go_wp2_with fail
        refine hK.out _ _ ?ks (fun hHeld => ?_); (case ks => (exact ((ScB.of hHeld).step he3).hold)); clear hK K; (try simp only [Act.put, List.setIfInBounds_toArray, List.set_cons_zero, List.set_cons_succ])
        clear he3
        (refine wpAnyH_take (i := 11) (oi := ?oi18) (v := ?v18) ?hi18 (by kernel_rfl) (by kernel_rfl) (by kernel_rfl) ?hq18 ?hy18 (by assumption) ?hr18; (case hi18 => ((simp only [List.getElem?_toArray, List.getElem?_cons_zero, List.getElem?_cons_succ]); exact rfl)); (case hq18 => exact fun _ _ _ h => h); (case hy18 => (refine Or.inl ⟨by rfl, ?_⟩; (intro w hSw); (try dsimp only at hSw); go_simp; (try with_reducible rfl))); (try simp only [Act.put, List.setIfInBounds_toArray, List.set_cons_zero, List.set_cons_succ]))
        refine wpAnyH_done (by kernel_rfl) ?_ _
        have hend := ScB.of hHeld
        go_wp2_with fail
        go_meet
        case rel => exact ⟨_, rfl, progF_I64 _ _ _ _, hend⟩
    rename_i wcxa
    obtain ⟨xa, rfl, hxa, hsxa⟩ := hcut
    clear hs6
    go_wp2_with fail
    go_cut [9] from 10 (fun s w' => ∃ x, s = .int .i64 x ∧ I64 x ∧ ScB w C G b cap l w')
    case first =>
      have hwn : IntKind.i64.wrap ((N : Int) + 1) = ((N + 1 : Nat) : Int) := by rw [IntKind.wrap_i64]; omega
      have hS0 := hsxa.drw.hold
      clear hsxa
      obtain ⟨M, hM, hM1, hM2⟩ : ∃ M : Nat, (if (6 : Int) ≤ ((N + 1 : Nat) : Int) then (6 : Int) else ((N + 1 : Nat) : Int)) = (M : Int) ∧ 1 ≤ M ∧ M ≤ 6 := by
        by_cases h : 6 ≤ N + 1
        · exact ⟨6, by rw [if_pos (by omega)]; rfl, by omega, by omega⟩
        · exact ⟨N + 1, by rw [if_neg (by omega)], by omega, by omega⟩
      have hcase : (6 : Nat) ≤ N + 1 ∨ N + 1 < 6 := by omega
      rcases hcase with hcase | hcase
      · have hI : (6 : Int) ≤ ((N + 1 : Nat) : Int) := by omega
        refine wp_region_held_drew (S := fun w' => w'.cell? ⟨G, 0, none⟩ = some (.slice (some ⟨b, 0, none⟩) l.length cap) ∧ w'.cell? ⟨w.heap.size, 0, none⟩ = some (atR w' w.heap.size) ∧ w'.frozen? ⟨w.heap.size, 0, none⟩ = false ∧ ScB w C G b cap l w') (by kernel_rfl) hS0 (fun hHeld => ?_)
        (refine wpAnyH_take (i := 0) (oi := ?oi19) (v := ?v19) ?hi19 (by kernel_rfl) (by kernel_rfl) (by kernel_rfl) ?hq19 ?hy19 (by assumption) ?hr19; (case hi19 => ((simp only [List.getElem?_toArray, List.getElem?_cons_zero]); exact rfl)); (case hq19 => exact fun _ _ _ h => h); (case hy19 => (refine Or.inl ⟨by rfl, ?_⟩; (intro w hSw); (try dsimp only at hSw); go_simp; (try with_reducible rfl))); (try simp only [Act.put, List.setIfInBounds_toArray, List.set_cons_zero, List.set_cons_succ])); (refine wpAnyH_take (i := 1) (oi := ?oi20) (v := ?v20) ?hi20 (by kernel_rfl) (by kernel_rfl) (by kernel_rfl) ?hq20 ?hy20 (by assumption) ?hr20; (case hi20 => ((simp only [List.getElem?_toArray, List.getElem?_cons_zero, List.getElem?_cons_succ]); exact rfl)); (case hq20 => exact fun _ _ _ h => h); (case hy20 => (refine Or.inl ⟨by rfl, ?_⟩; (intro w hSw); (try dsimp only at hSw); go_simp; (try with_reducible rfl))); (try simp only [Act.put, List.setIfInBounds_toArray, List.set_cons_zero, List.set_cons_succ])); (refine wpAnyH_take (i := 2) (oi := ?oi21) (v := ?v21) ?hi21 (by kernel_rfl) (by kernel_rfl) (by kernel_rfl) ?hq21 ?hy21 (by assumption) ?hr21; (case hi21 => ((simp only [List.getElem?_toArray, List.getElem?_cons_zero, List.getElem?_cons_succ]); exact rfl)); (case hq21 => exact fun _ _ _ h => h); (case hy21 => (refine Or.inl ⟨by rfl, ?_⟩; (intro w hSw); (try dsimp only at hSw); go_simp; (try with_reducible rfl))); (try simp only [Act.put, List.setIfInBounds_toArray, List.set_cons_zero, List.set_cons_succ]))
        (refine wpAnyH_take (i := 4) (oi := ?oi22) (v := ?v22) ?hi22 (by kernel_rfl) (by kernel_rfl) (by kernel_rfl) ?hq22 ?hy22 (by assumption) ?hr22; (case hi22 => ((simp only [List.getElem?_toArray, List.getElem?_cons_zero, List.getElem?_cons_succ]); exact rfl)); (case hq22 => exact fun _ _ _ h => h); (case hy22 => (refine Or.inl ⟨by rfl, ?_⟩; (intro w hSw); (try dsimp only at hSw); go_simp; (try with_reducible rfl))); (try simp only [Act.put, List.setIfInBounds_toArray, List.set_cons_zero, List.set_cons_succ])); (refine wpAnyH_take (i := 5) (oi := ?oi23) (v := ?v23) ?hi23 (by kernel_rfl) (by kernel_rfl) (by kernel_rfl) ?hq23 ?hy23 (by assumption) ?hr23; (case hi23 => ((simp only [List.getElem?_toArray, List.getElem?_cons_zero, List.getElem?_cons_succ]); exact rfl)); (case hq23 => exact fun _ _ _ h => h); (case hy23 => (refine Or.inl ⟨by rfl, ?_⟩; (intro w hSw); (try dsimp only at hSw); go_simp; (try with_reducible rfl))); (try simp only [Act.put, List.setIfInBounds_toArray, List.set_cons_zero, List.set_cons_succ])); (refine wpAnyH_take (i := 6) (oi := ?oi24) (v := ?v24) ?hi24 (by kernel_rfl) (by kernel_rfl) (by kernel_rfl) ?hq24 ?hy24 (by assumption) ?hr24; (case hi24 => ((simp only [List.getElem?_toArray, List.getElem?_cons_zero, List.getElem?_cons_succ]); exact rfl)); (case hq24 => exact fun _ _ _ h => h); (case hy24 => (refine Or.inl ⟨by rfl, ?_⟩; (intro w hSw); (try dsimp only at hSw); go_simp; (try with_reducible rfl))); (try simp only [Act.put, List.setIfInBounds_toArray, List.set_cons_zero, List.set_cons_succ])); (refine wpAnyH_take (i := 7) (oi := ?oi25) (v := ?v25) ?hi25 (by kernel_rfl) (by kernel_rfl) (by kernel_rfl) ?hq25 ?hy25 (by assumption) ?hr25; (case hi25 => ((simp only [List.getElem?_toArray, List.getElem?_cons_zero, List.getElem?_cons_succ]); exact rfl)); (case hq25 => exact fun _ _ _ h => h); (case hy25 => (refine Or.inl ⟨by rfl, ?_⟩; (intro w hSw); (try dsimp only at hSw); go_simp; (try with_reducible rfl))); (try simp only [Act.put, List.setIfInBounds_toArray, List.set_cons_zero, List.set_cons_succ])); (refine wpAnyH_take (i := 8) (oi := ?oi26) (v := ?v26) ?hi26 (by kernel_rfl) (by kernel_rfl) (by kernel_rfl) ?hq26 ?hy26 (by assumption) ?hr26; (case hi26 => ((simp only [List.getElem?_toArray, List.getElem?_cons_zero, List.getElem?_cons_succ]); exact rfl)); (case hq26 => exact fun _ _ _ h => h); (case hy26 => (refine Or.inl ⟨by rfl, ?_⟩; (intro w hSw); (try dsimp only at hSw); go_simp; (try with_reducible rfl))); (try simp only [Act.put, List.setIfInBounds_toArray, List.set_cons_zero, List.set_cons_succ]))
        refine wpAnyH_ready (rs := [3]) (by kernel_rfl) (by simp) ?_; refine AllReadyH.cons rfl (fun K hK => ?_) AllReadyH.nil; go_simp
        (go_at_call 125; refine (l1Below_any C N _ (by omega) (by omega) (ScB.of hHeld).dr.cur).mono ?_; rintro e v1 ⟨z1, hz1, rfl, he1⟩)
        go_wp2_with fail
        refine hK.out _ _ ?ks (fun hHeld => ?_); (case ks => (exact ((ScB.of hHeld).drew he1).hold)); clear hK K; (try simp only [Act.put, List.setIfInBounds_toArray, List.set_cons_zero, List.set_cons_succ])
        clear he1
        refine wpAnyH_ready (rs := [9]) (by kernel_rfl) (by simp) ?_; refine AllReadyH.cons rfl (fun K hK => ?_) AllReadyH.nil; go_simp
        (go_at_call 125; refine (l1Below_any C 6 _ (by omega) (by omega) (ScB.of hHeld).dr.cur).mono ?_; rintro e v2 ⟨z2, hz2, rfl, he2⟩)
        go_wp2_with fail
        refine hK.out _ _ ?ks (fun hHeld => ?_); (case ks => (exact ((ScB.of hHeld).drew he2).hold)); clear hK K; (try simp only [Act.put, List.setIfInBounds_toArray, List.set_cons_zero, List.set_cons_succ])
        clear he2
        refine wpAnyH_ready (rs := [10]) (by kernel_rfl) (by simp) ?_; refine AllReadyH.cons rfl (fun K hK => ?_) AllReadyH.nil; go_simp
        (go_at_call 49; refine (sProgressionSet_any b 0 cap l _ _ _ _ (by omega) (ScB.of hHeld).hg).mono ?_; rintro e v3 ⟨rfl, he3⟩)
        go_wp2_with fail
        refine hK.out _ _ ?ks (fun hHeld => ?_); (case ks => (exact ((ScB.of hHeld).step he3).hold)); clear hK K; (try simp only [Act.put, List.setIfInBounds_toArray, List.set_cons_zero, List.set_cons_succ])
        clear he3
        (refine wpAnyH_take (i := 11) (oi := ?oi27) (v := ?v27) ?hi27 (by kernel_rfl) (by kernel_rfl) (by kernel_rfl) ?hq27 ?hy27 (by assumption) ?hr27; (case hi27 => ((simp only [List.getElem?_toArray, List.getElem?_cons_zero, List.getElem?_cons_succ]); exact rfl)); (case hq27 => exact fun _ _ _ h => h); (case hy27 => (refine Or.inl ⟨by rfl, ?_⟩; (intro w hSw); (try dsimp only at hSw); go_simp; (try with_reducible rfl))); (try simp only [Act.put, List.setIfInBounds_toArray, List.set_cons_zero, List.set_cons_succ]))
        refine wpAnyH_done (by kernel_rfl) ?_ _
        have hend := ScB.of hHeld
        go_wp2_with fail
        go_meet
        case rel => exact ⟨_, rfl, progF_I64 _ _ _ _, hend⟩
      · have hI : ((N + 1 : Nat) : Int) < 6 := by omega
        refine wp_region_held_drew (S := fun w' => w'.cell? ⟨G, 0, none⟩ = some (.slice (some ⟨b, 0, none⟩) l.length cap) ∧ w'.cell? ⟨w.heap.size, 0, none⟩ = some (atR w' w.heap.size) ∧ w'.frozen? ⟨w.heap.size, 0, none⟩ = false ∧ ScB w C G b cap l w') (by kernel_rfl) hS0 (fun hHeld => ?_)
        (refine wpAnyH_take (i := 0) (oi := ?oi28) (v := ?v28) ?hi28 (by kernel_rfl) (by kernel_rfl) (by kernel_rfl) ?hq28 ?hy28 (by assumption) ?hr28; (case hi28 => ((simp only [List.getElem?_toArray, List.getElem?_cons_zero]); exact rfl)); (case hq28 => exact fun _ _ _ h => h); (case hy28 => (refine Or.inl ⟨by rfl, ?_⟩; (intro w hSw); (try dsimp only at hSw); go_simp; (try with_reducible rfl))); (try simp only [Act.put, List.setIfInBounds_toArray, List.set_cons_zero, List.set_cons_succ])); (refine wpAnyH_take (i := 1) (oi := ?oi29) (v := ?v29) ?hi29 (by kernel_rfl) (by kernel_rfl) (by kernel_rfl) ?hq29 ?hy29 (by assumption) ?hr29; (case hi29 => ((simp only [List.getElem?_toArray, List.getElem?_cons_zero, List.getElem?_cons_succ]); exact rfl)); (case hq29 => exact fun _ _ _ h => h); (case hy29 => (refine Or.inl ⟨by rfl, ?_⟩; (intro w hSw); (try dsimp only at hSw); go_simp; (try with_reducible rfl))); (try simp only [Act.put, List.setIfInBounds_toArray, List.set_cons_zero, List.set_cons_succ])); (refine wpAnyH_take (i := 2) (oi := ?oi30) (v := ?v30) ?hi30 (by kernel_rfl) (by kernel_rfl) (by kernel_rfl) ?hq30 ?hy30 (by assumption) ?hr30; (case hi30 => ((simp only [List.getElem?_toArray, List.getElem?_cons_zero, List.getElem?_cons_succ]); exact rfl)); (case hq30 => exact fun _ _ _ h => h); (case hy30 => (refine Or.inl ⟨by rfl, ?_⟩; (intro w hSw); (try dsimp only at hSw); go_simp; (try with_reducible rfl))); (try simp only [Act.put, List.setIfInBounds_toArray, List.set_cons_zero, List.set_cons_succ]))
        (refine wpAnyH_take (i := 4) (oi := ?oi31) (v := ?v31) ?hi31 (by kernel_rfl) (by kernel_rfl) (by kernel_rfl) ?hq31 ?hy31 (by assumption) ?hr31; (case hi31 => ((simp only [List.getElem?_toArray, List.getElem?_cons_zero, List.getElem?_cons_succ]); exact rfl)); (case hq31 => exact fun _ _ _ h => h); (case hy31 => (refine Or.inl ⟨by rfl, ?_⟩; (intro w hSw); (try dsimp only at hSw); go_simp; (try with_reducible rfl))); (try simp only [Act.put, List.setIfInBounds_toArray, List.set_cons_zero, List.set_cons_succ])); (refine wpAnyH_take (i := 5) (oi := ?oi32) (v := ?v32) ?hi32 (by kernel_rfl) (by kernel_rfl) (by kernel_rfl) ?hq32 ?hy32 (by assumption) ?hr32; (case hi32 => ((simp only [List.getElem?_toArray, List.getElem?_cons_zero, List.getElem?_cons_succ]); exact rfl)); (case hq32 => exact fun _ _ _ h => h); (case hy32 => (refine Or.inl ⟨by rfl, ?_⟩; (intro w hSw); (try dsimp only at hSw); go_simp; (try with_reducible rfl))); (try simp only [Act.put, List.setIfInBounds_toArray, List.set_cons_zero, List.set_cons_succ])); (refine wpAnyH_take (i := 6) (oi := ?oi33) (v := ?v33) ?hi33 (by kernel_rfl) (by kernel_rfl) (by kernel_rfl) ?hq33 ?hy33 (by assumption) ?hr33; (case hi33 => ((simp only [List.getElem?_toArray, List.getElem?_cons_zero, List.getElem?_cons_succ]); exact rfl)); (case hq33 => exact fun _ _ _ h => h); (case hy33 => (refine Or.inl ⟨by rfl, ?_⟩; (intro w hSw); (try dsimp only at hSw); go_simp; (try with_reducible rfl))); (try simp only [Act.put, List.setIfInBounds_toArray, List.set_cons_zero, List.set_cons_succ])); (refine wpAnyH_take (i := 7) (oi := ?oi34) (v := ?v34) ?hi34 (by kernel_rfl) (by kernel_rfl) (by kernel_rfl) ?hq34 ?hy34 (by assumption) ?hr34; (case hi34 => ((simp only [List.getElem?_toArray, List.getElem?_cons_zero, List.getElem?_cons_succ]); exact rfl)); (case hq34 => exact fun _ _ _ h => h); (case hy34 => (refine Or.inl ⟨by rfl, ?_⟩; (intro w hSw); (try dsimp only at hSw); go_simp; (try with_reducible rfl))); (try simp only [Act.put, List.setIfInBounds_toArray, List.set_cons_zero, List.set_cons_succ])); (refine wpAnyH_take (i := 8) (oi := ?oi35) (v := ?v35) ?hi35 (by kernel_rfl) (by kernel_rfl) (by kernel_rfl) ?hq35 ?hy35 (by assumption) ?hr35; (case hi35 => ((simp only [List.getElem?_toArray, List.getElem?_cons_zero, List.getElem?_cons_succ]); exact rfl)); (case hq35 => exact fun _ _ _ h => h); (case hy35 => (refine Or.inl ⟨by rfl, ?_⟩; (intro w hSw); (try dsimp only at hSw); go_simp; (try with_reducible rfl))); (try simp only [Act.put, List.setIfInBounds_toArray, List.set_cons_zero, List.set_cons_succ]))
        refine wpAnyH_ready (rs := [3]) (by kernel_rfl) (by simp) ?_; refine AllReadyH.cons rfl (fun K hK => ?_) AllReadyH.nil; go_simp
        (go_at_call 125; refine (l1Below_any C N _ (by omega) (by omega) (ScB.of hHeld).dr.cur).mono ?_; rintro e v1 ⟨z1, hz1, rfl, he1⟩)
        go_wp2_with fail
        refine hK.out _ _ ?ks (fun hHeld => ?_); (case ks => (exact ((ScB.of hHeld).drew he1).hold)); clear hK K; (try simp only [Act.put, List.setIfInBounds_toArray, List.set_cons_zero, List.set_cons_succ])
        clear he1
        refine wpAnyH_ready (rs := [9]) (by kernel_rfl) (by simp) ?_; refine AllReadyH.cons rfl (fun K hK => ?_) AllReadyH.nil; go_simp
        (go_at_call 125; refine (l1Below_any C (N + 1) _ (by omega) (by omega) (ScB.of hHeld).dr.cur).mono ?_; rintro e v2 ⟨z2, hz2, rfl, he2⟩)
        go_wp2_with fail
        refine hK.out _ _ ?ks (fun hHeld => ?_); (case ks => (exact ((ScB.of hHeld).drew he2).hold)); clear hK K; (try simp only [Act.put, List.setIfInBounds_toArray, List.set_cons_zero, List.set_cons_succ])
        clear he2
        refine wpAnyH_ready (rs := [10]) (by kernel_rfl) (by simp) ?_; refine AllReadyH.cons rfl (fun K hK => ?_) AllReadyH.nil; go_simp
        (go_at_call 49; refine (sProgressionSet_any b 0 cap l _ _ _ _ (by omega) (ScB.of hHeld).hg).mono ?_; rintro e v3 ⟨rfl, he3⟩)
        go_wp2_with fail
        refine hK.out _ _ ?ks (fun hHeld => ?_); (case ks => (exact ((ScB.of hHeld).step he3).hold)); clear hK K; (try simp only [Act.put, List.setIfInBounds_toArray, List.set_cons_zero, List.set_cons_succ])
        clear he3
        (refine wpAnyH_take (i := 11) (oi := ?oi36) (v := ?v36) ?hi36 (by kernel_rfl) (by kernel_rfl) (by kernel_rfl) ?hq36 ?hy36 (by assumption) ?hr36; (case hi36 => ((simp only [List.getElem?_toArray, List.getElem?_cons_zero, List.getElem?_cons_succ]); exact rfl)); (case hq36 => exact fun _ _ _ h => h); (case hy36 => (refine Or.inl ⟨by rfl, ?_⟩; (intro w hSw); (try dsimp only at hSw); go_simp; (try with_reducible rfl))); (try simp only [Act.put, List.setIfInBounds_toArray, List.set_cons_zero, List.set_cons_succ]))
        refine wpAnyH_done (by kernel_rfl) ?_ _
        have hend := ScB.of hHeld
        go_wp2_with fail
        go_meet
        case rel => exact ⟨_, rfl, progF_I64 _ _ _ _, hend⟩
    rename_i wcxb
    obtain ⟨xb, rfl, hxb, hsxb⟩ := hcut
    clear hsxa
    have hcG := hsxb.cG
    go_wp2_with fail
    refine (l1Once_any C 3 _ (by omega) (by omega) hsxb.dr.cur).mono ?_; rintro e v4 ⟨t1, rfl, he4⟩
    have hs7 := hsxb.drew he4
    clear hsxb he4 hcG
    have hcG := hs7.cG
    cases t1
    · go_wp2_with fail
      refine (l1Once_any C 3 _ (by omega) (by omega) hs7.dr.cur).mono ?_; rintro e v6 ⟨t2, rfl, he6⟩
      have hs9 := hs7.drew he6
      clear hs7 he6 hcG
      have hcG := hs9.cG
      cases t2
      · obtain ⟨v0, hcR0⟩ := hs9.cR
        have hfR := hs9.fR
        have hfin := hs9.fin (.slice (some ⟨b, 0, none⟩) l.length cap)
        have hcR := hfin.1
        clear hs9
        go_wp2_with fail
        refine bodyPost_ret (v := .tuple #[.agg #[.slice (some ⟨b, 0, none⟩) l.length cap], .int .i64 xa, .int .i64 xb]) (by simp [results, Try.results177, go_sem, hcR]) rfl ?_
        exact ⟨b, cap, l, xa, xb, rfl, by omega, hl, hfin.2.1, hxa, hxb, hfin.2.2⟩
      · go_wp2_with fail
        refine (l3Set_any C b 0 cap l _ hs9.dr.cur (by omega) hs9.hg).mono ?_; rintro e v7 ⟨xd, rfl, hxd, he7⟩
        have hs10 := hs9.drew he7
        clear hs9 he7 hcG
        have hcG := hs10.cG
        obtain ⟨v0, hcR0⟩ := hs10.cR
        have hfR := hs10.fR
        have hfin := hs10.fin (.slice (some ⟨b, 0, none⟩) l.length cap)
        have hcR := hfin.1
        clear hs10
        go_wp2_with fail
        refine bodyPost_ret (v := .tuple #[.agg #[.slice (some ⟨b, 0, none⟩) l.length cap], .int .i64 xa, .int .i64 xd]) (by simp [results, Try.results177, go_sem, hcR]) rfl ?_
        exact ⟨b, cap, l, xa, xd, rfl, by omega, hl, hfin.2.1, hxa, hxd, hfin.2.2⟩
    · go_wp2_with fail
      refine (l3Set_any C b 0 cap l _ hs7.dr.cur (by omega) hs7.hg).mono ?_; rintro e v5 ⟨xc, rfl, hxc, he5⟩
      have hs8 := hs7.drew he5
      clear hs7 he5 hcG
      have hcG := hs8.cG
      go_wp2_with fail
      refine (l1Once_any C 3 _ (by omega) (by omega) hs8.dr.cur).mono ?_; rintro e v6 ⟨t2, rfl, he6⟩
      have hs9 := hs8.drew he6
      clear hs8 he6 hcG
      have hcG := hs9.cG
      cases t2
      · obtain ⟨v0, hcR0⟩ := hs9.cR
        have hfR := hs9.fR
        have hfin := hs9.fin (.slice (some ⟨b, 0, none⟩) l.length cap)
        have hcR := hfin.1
        clear hs9
        go_wp2_with fail
        refine bodyPost_ret (v := .tuple #[.agg #[.slice (some ⟨b, 0, none⟩) l.length cap], .int .i64 xc, .int .i64 xb]) (by simp [results, Try.results177, go_sem, hcR]) rfl ?_
        exact ⟨b, cap, l, xc, xb, rfl, by omega, hl, hfin.2.1, hxc, hxb, hfin.2.2⟩
      · go_wp2_with fail
        refine (l3Set_any C b 0 cap l _ hs9.dr.cur (by omega) hs9.hg).mono ?_; rintro e v7 ⟨xd, rfl, hxd, he7⟩
        have hs10 := hs9.drew he7
        clear hs9 he7 hcG
        have hcG := hs10.cG
        obtain ⟨v0, hcR0⟩ := hs10.cR
        have hfR := hs10.fR
        have hfin := hs10.fin (.slice (some ⟨b, 0, none⟩) l.length cap)
        have hcR := hfin.1
        clear hs10
        go_wp2_with fail
        refine bodyPost_ret (v := .tuple #[.agg #[.slice (some ⟨b, 0, none⟩) l.length cap], .int .i64 xc, .int .i64 xd]) (by simp [results, Try.results177, go_sem, hcR]) rfl ?_
        exact ⟨b, cap, l, xc, xd, rfl, by omega, hl, hfin.2.1, hxc, hxd, hfin.2.2⟩
end Go.Proofs.Ytpflnmcecnbilaa
