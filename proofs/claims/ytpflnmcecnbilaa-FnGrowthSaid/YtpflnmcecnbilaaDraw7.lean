/-
  Contracts of the reference's drawing: groups of prime order with sets in progression.
-/
import Derived.Test.YtpflnmcecnbilaaDraw5
import Derived.Test.YtpflnmcecnbilaaPro
import Derived.Deep.Cut
namespace Go.Proofs.Ytpflnmcecnbilaa
open Go.RowKit

/-- inside a function that draws by a cursor that came in: the result's cell, the box G of the group drawn -/
structure ScB (w : World) (C G b cap : Nat) (l : List Int) (wr : World) : Prop where
  dr : Drew w C wr
  hC : C < w.heap.size
  cR : ∃ v, wr.cell? ⟨w.heap.size, 0, none⟩ = some v
  fR : wr.frozen? ⟨w.heap.size, 0, none⟩ = false
  lR : w.heap.size < wr.heap.size
  hG : w.heap.size < G
  lG : G < wr.heap.size
  cG : wr.cell? ⟨G, 0, none⟩ = some (.slice (some ⟨b, 0, none⟩) l.length cap)
  hb : w.heap.size < b
  hl : l.length ≤ 4
  hg : GrpAt wr b 0 l
section
variable {w wr w0 w1 w3 : World} {C G b cap : Nat} {l : List Int}
theorem ScB.drew (h : ScB w C G b cap l wr) (hd : Drew wr C w1) : ScB w C G b cap l w1 := by
  have h1 := h.hC; have h2 := h.hG; have h3 := h.hb
  refine ⟨h.dr.trans hd, h.hC, ?_, ?_, Nat.lt_of_lt_of_le h.lR hd.gr.size, h.hG, Nat.lt_of_lt_of_le h.lG hd.gr.size, ?_, h.hb, h.hl, hd.grp h.hg (by omega)⟩
  · obtain ⟨v, hv⟩ := h.cR; exact ⟨v, (hd.at (b := w.heap.size) (j := 0) h.lR (by omega)).trans hv⟩
  · exact (hd.fz (b := w.heap.size) (j := 0) h.lR (by omega)).trans h.fR
  · exact (hd.at (b := G) (j := 0) h.lG (by omega)).trans h.cG
theorem ScB.step (h : ScB w C G b cap l wr) (hb : Below wr.heap.size wr w1) : ScB w C G b cap l w1 := h.drew ((Drew.refl h.dr.cur).step hb)
theorem ScB.drw (h : ScB w C G b cap l wr) : ScB w C G b cap l wr.drew := h.step (Below.refl _ _).drew
theorem ScB.setR (h : ScB w C G b cap l wr) (v : Value) : ScB w C G b cap l (wr.setCell ⟨w.heap.size, 0, none⟩ v) := by
  have h1 := h.hC; have h2 := h.hG; have h3 := h.hb
  have e : ∀ k j, k ≠ w.heap.size → (wr.setCell ⟨w.heap.size, 0, none⟩ v).cell? ⟨k, j, none⟩ = wr.cell? ⟨k, j, none⟩ := fun k j hk => World.cell?_of_block (Below.heap_setCell _ _ _ _ hk)
  refine ⟨h.dr.setCell h.hC (Nat.le_refl _) v, h.hC, ?_, by simpa using h.fR, by simpa using h.lR, h.hG, by simpa using h.lG, (e G 0 (by omega)).trans h.cG, h.hb, h.hl, h.hg.setCell (by omega) v⟩
  obtain ⟨u, hu⟩ := h.cR; exact ⟨v, setC_eq hu⟩
theorem ScB.hold (h : ScB w C G b cap l wr) : wr.cell? ⟨G, 0, none⟩ = some (.slice (some ⟨b, 0, none⟩) l.length cap) ∧ wr.cell? ⟨w.heap.size, 0, none⟩ = some (atR wr w.heap.size) ∧ wr.frozen? ⟨w.heap.size, 0, none⟩ = false ∧ ScB w C G b cap l wr :=
  ⟨h.cG, by obtain ⟨v, hv⟩ := h.cR; unfold atR; rw [hv]; rfl, h.fR, h⟩
theorem ScB.fin (h : ScB w C G b cap l wr) (v : Value) : (wr.setCell ⟨w.heap.size, 0, none⟩ v).cell? ⟨w.heap.size, 0, none⟩ = some v ∧ GrpAt (wr.setCell ⟨w.heap.size, 0, none⟩ v) b 0 l ∧ Drew w C (wr.setCell ⟨w.heap.size, 0, none⟩ v) := by
  obtain ⟨u, hu⟩ := h.cR
  exact ⟨setC_eq hu, (h.setR v).hg, (h.setR v).dr⟩
theorem ScB.of {X Y Z : Prop} (h : X ∧ Y ∧ Z ∧ ScB w C G b cap l wr) : ScB w C G b cap l wr := h.2.2.2
/-- the beginning: the result's cell, the group drawn and boxed -/
theorem ScB.init (t : TypeId) (hc : Cur w C) (h0 : w.alloc (.cells #[.slice none 0 0] t) = w0) (hd : Drew w0 C w3) (hbb : w0.heap.size ≤ b) (hl : l.length ≤ 4) (hg : GrpAt w3 b 0 l) :
    ScB w C w3.heap.size b cap l (w3.alloc (.cells #[.slice (some ⟨b, 0, none⟩) l.length cap] t)) := by
  have hs0 : w0.heap.size = w.heap.size + 1 := by rw [← h0]; simp
  have hC := hc.lt
  have hd0 : Drew w C w0 := by rw [← h0]; exact (Drew.refl hc).alloc _
  have c0 : w0.cell? ⟨w.heap.size, 0, none⟩ = some (.slice none 0 0) := by rw [← h0]; exact box_new _ _ _
  have f0 : w0.frozen? ⟨w.heap.size, 0, none⟩ = false := by rw [← h0, World.frozen?_alloc_at _ _ _ _ rfl]
  have hs3 := hd.gr.size
  have c3 := (hd.at (b := w.heap.size) (j := 0) (by omega) (by omega)).trans c0
  have f3 := (hd.fz (b := w.heap.size) (j := 0) (by omega) (by omega)).trans f0
  exact ⟨(hd0.trans hd).alloc _, hC, ⟨_, cell_alloc c3 (by omega) _⟩, by rw [frozen?_alloc_cells]; exact f3, by simp; omega, by omega, by simp, box_new _ _ _, by omega, hl, hg.alloc _⟩
end
def DrewG1 (w : World) (C : Nat) (e : Ending) (w' : World) : Prop := ∃ b cap l x1, e = .returned (.tuple #[.agg #[.slice (some ⟨b, 0, none⟩) (l : List Int).length cap], .int .i64 x1]) ∧ w.heap.size ≤ b ∧ l.length ≤ 4 ∧ GrpAt w' b 0 l ∧ I64 x1 ∧ Drew w C w'
def DrewG2 (w : World) (C : Nat) (e : Ending) (w' : World) : Prop := ∃ b cap l x1 x2, e = .returned (.tuple #[.agg #[.slice (some ⟨b, 0, none⟩) (l : List Int).length cap], .int .i64 x1, .int .i64 x2]) ∧ w.heap.size ≤ b ∧ l.length ≤ 4 ∧ GrpAt w' b 0 l ∧ I64 x1 ∧ I64 x2 ∧ Drew w C w'
set_option maxHeartbeats 1000000 in
theorem l10Prime_any (C : Nat) (w : World) (hc : Cur w C) :
    Calls Try.prog 190 #[.pointer (some ⟨C, 0, none⟩)] w (DrewG w C) := by
  have hCw := hc.lt
  have hd0 := (Drew.refl hc).alloc (.cells #[.slice none 0 0] 26)
  have hc0 : (w.alloc (.cells #[.slice none 0 0] 26)).cell? ⟨w.heap.size, 0, none⟩ = some (.slice none 0 0) := box_new _ _ _
  have hf0 : (w.alloc (.cells #[.slice none 0 0] 26)).frozen? ⟨w.heap.size, 0, none⟩ = false := by rw [World.frozen?_alloc_at _ _ _ _ rfl]
  have hs0 : (w.alloc (.cells #[.slice none 0 0] 26)).heap.size = w.heap.size + 1 := by simp
  go_enter Try.func190, Try.ntmps190
  go_wp2_with fail
  refine (l1Once_any C 8 _ (by omega) (by omega) hd0.cur).mono ?_; rintro e w1 ⟨t, rfl, hd1⟩
  have hc1 := (hd1.at (b := w.heap.size) (j := 0) (by omega) (by omega)).trans hc0
  have hf1 := (hd1.fz (b := w.heap.size) (j := 0) (by omega) (by omega)).trans hf0
  have hd2 := hd0.trans hd1
  have hs1 := hd1.gr.size
  rw [hs0] at hs1
  have hlt1 : w.heap.size < w1.heap.size := by omega
  clear hc0 hf0 hs0 hd0 hd1
  cases t
  · have hgp := grp_new w1 [2, 3, 5, 7, 11, 13] 3
    have hd4 := hd2.alloc (.cells #[.int .i64 2, .int .i64 3, .int .i64 5, .int .i64 7, .int .i64 11, .int .i64 13] 3)
    have hc4 := cell_alloc hc1 hlt1 (.cells #[.int .i64 2, .int .i64 3, .int .i64 5, .int .i64 7, .int .i64 11, .int .i64 13] 3)
    have hf4 : (w1.alloc (.cells #[.int .i64 2, .int .i64 3, .int .i64 5, .int .i64 7, .int .i64 11, .int .i64 13] 3)).frozen? ⟨w.heap.size, 0, none⟩ = false := by rw [frozen?_alloc_cells]; exact hf1
    have hs4 : (w1.alloc (.cells #[.int .i64 2, .int .i64 3, .int .i64 5, .int .i64 7, .int .i64 11, .int .i64 13] 3)).heap.size = w1.heap.size + 1 := by simp
    go_wp2_with fail
    refine (l1PickInt_any C w1.heap.size 6 [2, 3, 5, 7, 11, 13] _ (by simp) (by simp) hd4.cur hgp (by omega)).mono ?_; rintro e w5 ⟨k, hk, rfl, hd5⟩
    generalize ([2, 3, 5, 7, 11, 13] : List Int).getD k 0 = x
    have hc5 := (hd5.at (b := w.heap.size) (j := 0) (by omega) (by omega)).trans hc4
    have hf5 := (hd5.fz (b := w.heap.size) (j := 0) (by omega) (by omega)).trans hf4
    have hs5 := hd5.gr.size
    have hlt5 : w.heap.size < w5.heap.size := by omega
    have hfin := DrewG.fresh (hd4.trans hd5) hCw (Nat.le_refl _) [x] (by simp) 3 (.slice (some ⟨w5.heap.size, 0, none⟩) 1 1) (by omega) hc5
    have hfc : ((w5.setCell ⟨w.heap.size, 0, none⟩ (.slice (some ⟨w5.heap.size, 0, none⟩) 1 1)).alloc (.cells #[.int .i64 x] 3)).cell? ⟨w.heap.size, 0, none⟩ = some (.slice (some ⟨w5.heap.size, 0, none⟩) 1 1) := hfin.2
    clear hgp hc4 hf4 hd4 hd5 hc1 hf1 hs4 hs5 hd2
    go_wp2_with fail
    refine bodyPost_ret (v := .agg #[.slice (some ⟨w5.heap.size, 0, none⟩) 1 1]) (by simp [results, Try.results190, go_sem, hfc]) rfl hfin.1
  · go_wp2_with fail
    refine (l2Any_any C w1 hd2.cur).mono ?_; rintro e w3 ⟨b, cap, l, rfl, hb, hl, hg, hd3⟩
    have hc3 := (hd3.at (b := w.heap.size) (j := 0) (by omega) (by omega)).trans hc1
    have hf3 := (hd3.fz (b := w.heap.size) (j := 0) (by omega) (by omega)).trans hf1
    have hfin := (hd2.trans hd3).store hCw (R := w.heap.size) (Nat.le_refl _) (b := b) (cap := cap) (by omega) hl hg (by omega) (.slice (some ⟨b, 0, none⟩) l.length cap)
    clear hc1 hf1 hd2 hd3 hg
    go_wp2_with fail
    refine bodyPost_ret (v := .agg #[.slice (some ⟨b, 0, none⟩) l.length cap]) (by simp [results, Try.results190, go_sem, hc3]) rfl hfin
theorem progF_I64 (l : List Int) (s d n : Int) : I64 (progF l s d n) := by
  by_cases h : progOk l s d n = true
  · obtain ⟨m, S, D, N, hm, rfl, rfl, rfl, rfl, hS, hD, hN⟩ := progOk_iff.1 h
    unfold progF; rw [if_pos h]
    have h1 := ofL_bound (progTo_24 hm (d := D) hS N)
    rw [toN_cst, Int.toNat_natCast, Int.toNat_natCast, Int.toNat_natCast]
    exact I64_nat (by omega)
  · unfold progF; rw [if_neg h]; exact ⟨by omega, by omega⟩
set_option maxRecDepth 4000 in
set_option maxHeartbeats 4000000 in
theorem l10Set_any (C : Nat) (w : World) (hc : Cur w C) :
    Calls Try.prog 177 #[.pointer (some ⟨C, 0, none⟩)] w (DrewG2 w C) := by
  have hCw := hc.lt
  have hd0 := (Drew.refl hc).alloc (.cells #[.slice none 0 0] 26)
  go_enter Try.func177, Try.ntmps177
  go_wp2_with fail
  generalize h0 : w.alloc (.cells #[.slice none 0 0] 26) = w0 at *
  refine (l10Prime_any C w0 hd0.cur).mono ?_; rintro e w3 ⟨b, cap, l, rfl, hbb, hl, hg, hd3⟩
  have hs := ScB.init (cap := cap) 26 hc h0 hd3 hbb hl hg
  have hbw := hs.hb
  clear h0 hd0 hc hd3 hbb hg
  generalize hG : w3.heap.size = G at *
  have hcG := hs.cG
  go_upto_region 2 with fail
  generalize w3.alloc (.cells #[.slice (some ⟨b, 0, none⟩) l.length cap] 26) = wr at *
  clear hG
  go_cut [6] from 10 (fun s w' => ∃ N : Nat, s = .int .i64 N ∧ 1 ≤ N ∧ N ≤ 24 ∧ ScB w C G b cap l w')
  case first =>
    go_wp2_with fail
    refine (sOrderOf_any b 0 cap l wr (by omega) hs.hg).mono ?_; rintro e w4 ⟨rfl, hb4⟩
    have hs4 := hs.step hb4
    have hle := ordN_le l
    clear hs hb4 hcG
    by_cases h1 : 1 < ordN l
    · have h1I : (1 : Int) < (ordN l : Int) := by omega
      go_wp2_with fail
      go_meet
      case rel => exact ⟨ordN l, rfl, by omega, hle, hs4⟩
    · have h1I : (ordN l : Int) ≤ 1 := by omega
      go_wp2_with fail
      go_meet
      case rel => exact ⟨1, rfl, by omega, by omega, hs4⟩
  case rest =>
    obtain ⟨N, rfl, hN1, hN2, hs5⟩ := hcut
    clear hs hcG
    go_wp2_with fail
    refine (l1Below_any C N wc (by omega) (by omega) hs5.dr.cur).mono ?_; rintro e w6 ⟨d, hd, rfl, hd6⟩
    have hs6 := hs5.drew hd6
    clear hs5 hd6
    go_wp2_with fail
    go_cut [8] from 10 (fun s w' => ∃ x, s = .int .i64 x ∧ I64 x ∧ ScB w C G b cap l w')
    case first =>
      have hwn : IntKind.i64.wrap ((N : Int) + 1) = ((N + 1 : Nat) : Int) := by rw [IntKind.wrap_i64]; omega
      have hS0 := hs6.drw.hold
      clear hs6
      obtain ⟨M, hM, hM1, hM2⟩ : ∃ M : Nat, (if (6 : Int) ≤ ((N + 1 : Nat) : Int) then (6 : Int) else ((N + 1 : Nat) : Int)) = (M : Int) ∧ 1 ≤ M ∧ M ≤ 6 := by
        by_cases h : 6 ≤ N + 1
        · exact ⟨6, by rw [if_pos (by omega)]; rfl, by omega, by omega⟩
        · exact ⟨N + 1, by rw [if_neg (by omega)], by omega, by omega⟩
      have hcase : (6 : Nat) ≤ N + 1 ∨ N + 1 < 6 := by omega
      rcases hcase with hcase | hcase
      · have hI : (6 : Int) ≤ ((N + 1 : Nat) : Int) := by omega
        refine wp_region_held_drew (S := fun w' => w'.cell? ⟨G, 0, none⟩ = some (.slice (some ⟨b, 0, none⟩) l.length cap) ∧ w'.cell? ⟨w.heap.size, 0, none⟩ = some (atR w' w.heap.size) ∧ w'.frozen? ⟨w.heap.size, 0, none⟩ = false ∧ ScB w C G b cap l w') (by kernel_rfl) hS0 (fun hHeld => ?_)
        (refine wpAnyH_take (i := 0) (oi := ?oi28) (v := ?v28) ?hi28 (by kernel_rfl) (by kernel_rfl) (by kernel_rfl) ?hq28 ?hy28 (by assumption) ?hr28; (case hi28 => ((simp only [List.getElem?_toArray, List.getElem?_cons_zero]); exact rfl)); (case hq28 => exact fun _ _ _ h => h); (case hy28 => (refine Or.inl ⟨by rfl, ?_⟩; (intro w hSw); (try dsimp only at hSw); go_simp; (try with_reducible rfl))); (try simp only [Act.put, List.setIfInBounds_toArray, List.set_cons_zero, List.set_cons_succ])); (refine wpAnyH_take (i := 1) (oi := ?oi29) (v := ?v29) ?hi29 (by kernel_rfl) (by kernel_rfl) (by kernel_rfl) ?hq29 ?hy29 (by assumption) ?hr29; (case hi29 => ((simp only [List.getElem?_toArray, List.getElem?_cons_zero, List.getElem?_cons_succ]); exact rfl)); (case hq29 => exact fun _ _ _ h => h); (case hy29 => (refine Or.inl ⟨by rfl, ?_⟩; (intro w hSw); (try dsimp only at hSw); go_simp; (try with_reducible rfl))); (try simp only [Act.put, List.setIfInBounds_toArray, List.set_cons_zero, List.set_cons_succ])); (refine wpAnyH_take (i := 2) (oi := ?oi30) (v := ?v30) ?hi30 (by kernel_rfl) (by kernel_rfl) (by kernel_rfl) ?hq30 ?hy30 (by assumption) ?hr30; (case hi30 => ((simp only [List.getElem?_toArray, List.getElem?_cons_zero, List.getElem?_cons_succ]); exact rfl)); (case hq30 => exact fun _ _ _ h => h); (case hy30 => (refine Or.inl ⟨by rfl, ?_⟩; (intro w hSw); (try dsimp only at hSw); go_simp; (try with_reducible rfl))); (try simp only [Act.put, List.setIfInBounds_toArray, List.set_cons_zero, List.set_cons_succ]))
        (refine wpAnyH_take (i := 4) (oi := ?oi31) (v := ?v31) ?hi31 (by kernel_rfl) (by kernel_rfl) (by kernel_rfl) ?hq31 ?hy31 (by assumption) ?hr31; (case hi31 => ((simp only [List.getElem?_toArray, List.getElem?_cons_zero, List.getElem?_cons_succ]); exact rfl)); (case hq31 => exact fun _ _ _ h => h); (case hy31 => (refine Or.inl ⟨by rfl, ?_⟩; (intro w hSw); (try dsimp only at hSw); go_simp; (try with_reducible rfl))); (try simp only [Act.put, List.setIfInBounds_toArray, List.set_cons_zero, List.set_cons_succ])); (refine wpAnyH_take (i := 5) (oi := ?oi32) (v := ?v32) ?hi32 (by kernel_rfl) (by kernel_rfl) (by kernel_rfl) ?hq32 ?hy32 (by assumption) ?hr32; (case hi32 => ((simp only [List.getElem?_toArray, List.getElem?_cons_zero, List.getElem?_cons_succ]); exact rfl)); (case hq32 => exact fun _ _ _ h => h); (case hy32 => (refine Or.inl ⟨by rfl, ?_⟩; (intro w hSw); (try dsimp only at hSw); go_simp; (try with_reducible rfl))); (try simp only [Act.put, List.setIfInBounds_toArray, List.set_cons_zero, List.set_cons_succ])); (refine wpAnyH_take (i := 6) (oi := ?oi33) (v := ?v33) ?hi33 (by kernel_rfl) (by kernel_rfl) (by kernel_rfl) ?hq33 ?hy33 (by assumption) ?hr33; (case hi33 => ((simp only [List.getElem?_toArray, List.getElem?_cons_zero, List.getElem?_cons_succ]); exact rfl)); (case hq33 => exact fun _ _ _ h => h); (case hy33 => (refine Or.inl ⟨by rfl, ?_⟩; (intro w hSw); (try dsimp only at hSw); go_simp; (try with_reducible rfl))); (try simp only [Act.put, List.setIfInBounds_toArray, List.set_cons_zero, List.set_cons_succ])); (refine wpAnyH_take (i := 7) (oi := ?oi34) (v := ?v34) ?hi34 (by kernel_rfl) (by kernel_rfl) (by kernel_rfl) ?hq34 ?hy34 (by assumption) ?hr34; (case hi34 => ((simp only [List.getElem?_toArray, List.getElem?_cons_zero, List.getElem?_cons_succ]); exact rfl)); (case hq34 => exact fun _ _ _ h => h); (case hy34 => (refine Or.inl ⟨by rfl, ?_⟩; (intro w hSw); (try dsimp only at hSw); go_simp; (try with_reducible rfl))); (try simp only [Act.put, List.setIfInBounds_toArray, List.set_cons_zero, List.set_cons_succ])); (refine wpAnyH_take (i := 8) (oi := ?oi35) (v := ?v35) ?hi35 (by kernel_rfl) (by kernel_rfl) (by kernel_rfl) ?hq35 ?hy35 (by assumption) ?hr35; (case hi35 => ((simp only [List.getElem?_toArray, List.getElem?_cons_zero, List.getElem?_cons_succ]); exact rfl)); (case hq35 => exact fun _ _ _ h => h); (case hy35 => (refine Or.inl ⟨by rfl, ?_⟩; (intro w hSw); (try dsimp only at hSw); go_simp; (try with_reducible rfl))); (try simp only [Act.put, List.setIfInBounds_toArray, List.set_cons_zero, List.set_cons_succ]))
        refine wpAnyH_ready (rs := [3]) (by kernel_rfl) (by simp) ?_; refine AllReadyH.cons rfl (fun K hK => ?_) AllReadyH.nil; go_simp
        (go_at_call 125; refine (l1Below_any C N _ (by omega) (by omega) (ScB.of hHeld).dr.cur).mono ?_; rintro e v1 ⟨z1, hz1, rfl, he1⟩)
        go_wp2_with fail
        refine hK.out _ _ ?ks (fun hHeld => ?_); (case ks => (exact ((ScB.of hHeld).drew he1).hold)); clear hK K; (try simp only [Act.put, List.setIfInBounds_toArray, List.set_cons_zero, List.set_cons_succ])
        clear he1
        refine wpAnyH_ready (rs := [9]) (by kernel_rfl) (by simp) ?_; refine AllReadyH.cons rfl (fun K hK => ?_) AllReadyH.nil; go_simp
        (go_at_call 125; refine (l1Below_any C 6 _ (by omega) (by omega) (ScB.of hHeld).dr.cur).mono ?_; rintro e v2 ⟨z2, hz2, rfl, he2⟩)
        go_wp2_with fail
        refine hK.out _ _ ?ks (fun hHeld => ?_); (case ks => (exact ((ScB.of hHeld).drew he2).hold)); clear hK K; (try simp only [Act.put, List.setIfInBounds_toArray, List.set_cons_zero, List.set_cons_succ])
        clear he2
        refine wpAnyH_ready (rs := [10]) (by kernel_rfl) (by simp) ?_; refine AllReadyH.cons rfl (fun K hK => ?_) AllReadyH.nil; go_simp
        (go_at_call 49; refine (sProgressionSet_any b 0 cap l _ _ _ _ (by omega) (ScB.of hHeld).hg).mono ?_; rintro e v3 ⟨rfl, he3⟩)
        go_wp2_with fail
        refine hK.out _ _ ?ks (fun hHeld => ?_); (case ks => (exact ((ScB.of hHeld).step he3).hold)); clear hK K; (try simp only [Act.put, List.setIfInBounds_toArray, List.set_cons_zero, List.set_cons_succ])
        clear he3
        (refine wpAnyH_take (i := 11) (oi := ?oi36) (v := ?v36) ?hi36 (by kernel_rfl) (by kernel_rfl) (by kernel_rfl) ?hq36 ?hy36 (by assumption) ?hr36; (case hi36 => ((simp only [List.getElem?_toArray, List.getElem?_cons_zero, List.getElem?_cons_succ]); exact rfl)); (case hq36 => exact fun _ _ _ h => h); (case hy36 => (refine Or.inl ⟨by rfl, ?_⟩; (intro w hSw); (try dsimp only at hSw); go_simp; (try with_reducible rfl))); (try simp only [Act.put, List.setIfInBounds_toArray, List.set_cons_zero, List.set_cons_succ]))
        refine wpAnyH_done (by kernel_rfl) ?_ _
        have hend := ScB.of hHeld
        go_wp2_with fail
        go_meet
        case rel => exact ⟨_, rfl, progF_I64 _ _ _ _, hend⟩
      · have hI : ((N + 1 : Nat) : Int) < 6 := by omega
        refine wp_region_held_drew (S := fun w' => w'.cell? ⟨G, 0, none⟩ = some (.slice (some ⟨b, 0, none⟩) l.length cap) ∧ w'.cell? ⟨w.heap.size, 0, none⟩ = some (atR w' w.heap.size) ∧ w'.frozen? ⟨w.heap.size, 0, none⟩ = false ∧ ScB w C G b cap l w') (by kernel_rfl) hS0 (fun hHeld => ?_)
        (refine wpAnyH_take (i := 0) (oi := ?oi37) (v := ?v37) ?hi37 (by kernel_rfl) (by kernel_rfl) (by kernel_rfl) ?hq37 ?hy37 (by assumption) ?hr37; (case hi37 => ((simp only [List.getElem?_toArray, List.getElem?_cons_zero]); exact rfl)); (case hq37 => exact fun _ _ _ h => h); (case hy37 => (refine Or.inl ⟨by rfl, ?_⟩; (intro w hSw); (try dsimp only at hSw); go_simp; (try with_reducible rfl))); (try simp only [Act.put, List.setIfInBounds_toArray, List.set_cons_zero, List.set_cons_succ])); (refine wpAnyH_take (i := 1) (oi := ?oi38) (v := ?v38) ?hi38 (by kernel_rfl) (by kernel_rfl) (by kernel_rfl) ?hq38 ?hy38 (by assumption) ?hr38; (case hi38 => ((simp only [List.getElem?_toArray, List.getElem?_cons_zero, List.getElem?_cons_succ]); exact rfl)); (case hq38 => exact fun _ _ _ h => h); (case hy38 => (refine Or.inl ⟨by rfl, ?_⟩; (intro w hSw); (try dsimp only at hSw); go_simp; (try with_reducible rfl))); (try simp only [Act.put, List.setIfInBounds_toArray, List.set_cons_zero, List.set_cons_succ])); (refine wpAnyH_take (i := 2) (oi := ?oi39) (v := ?v39) ?hi39 (by kernel_rfl) (by kernel_rfl) (by kernel_rfl) ?hq39 ?hy39 (by assumption) ?hr39; (case hi39 => ((simp only [List.getElem?_toArray, List.getElem?_cons_zero, List.getElem?_cons_succ]); exact rfl)); (case hq39 => exact fun _ _ _ h => h); (case hy39 => (refine Or.inl ⟨by rfl, ?_⟩; (intro w hSw); (try dsimp only at hSw); go_simp; (try with_reducible rfl))); (try simp only [Act.put, List.setIfInBounds_toArray, List.set_cons_zero, List.set_cons_succ]))
        (refine wpAnyH_take (i := 4) (oi := ?oi40) (v := ?v40) ?hi40 (by kernel_rfl) (by kernel_rfl) (by kernel_rfl) ?hq40 ?hy40 (by assumption) ?hr40; (case hi40 => ((simp only [List.getElem?_toArray, List.getElem?_cons_zero, List.getElem?_cons_succ]); exact rfl)); (case hq40 => exact fun _ _ _ h => h); (case hy40 => (refine Or.inl ⟨by rfl, ?_⟩; (intro w hSw); (try dsimp only at hSw); go_simp; (try with_reducible rfl))); (try simp only [Act.put, List.setIfInBounds_toArray, List.set_cons_zero, List.set_cons_succ])); (refine wpAnyH_take (i := 5) (oi := ?oi41) (v := ?v41) ?hi41 (by kernel_rfl) (by kernel_rfl) (by kernel_rfl) ?hq41 ?hy41 (by assumption) ?hr41; (case hi41 => ((simp only [List.getElem?_toArray, List.getElem?_cons_zero, List.getElem?_cons_succ]); exact rfl)); (case hq41 => exact fun _ _ _ h => h); (case hy41 => (refine Or.inl ⟨by rfl, ?_⟩; (intro w hSw); (try dsimp only at hSw); go_simp; (try with_reducible rfl))); (try simp only [Act.put, List.setIfInBounds_toArray, List.set_cons_zero, List.set_cons_succ])); (refine wpAnyH_take (i := 6) (oi := ?oi42) (v := ?v42) ?hi42 (by kernel_rfl) (by kernel_rfl) (by kernel_rfl) ?hq42 ?hy42 (by assumption) ?hr42; (case hi42 => ((simp only [List.getElem?_toArray, List.getElem?_cons_zero, List.getElem?_cons_succ]); exact rfl)); (case hq42 => exact fun _ _ _ h => h); (case hy42 => (refine Or.inl ⟨by rfl, ?_⟩; (intro w hSw); (try dsimp only at hSw); go_simp; (try with_reducible rfl))); (try simp only [Act.put, List.setIfInBounds_toArray, List.set_cons_zero, List.set_cons_succ])); (refine wpAnyH_take (i := 7) (oi := ?oi43) (v := ?v43) ?hi43 (by kernel_rfl) (by kernel_rfl) (by kernel_rfl) ?hq43 ?hy43 (by assumption) ?hr43; (case hi43 => ((simp only [List.getElem?_toArray, List.getElem?_cons_zero, List.getElem?_cons_succ]); exact rfl)); (case hq43 => exact fun _ _ _ h => h); (case hy43 => (refine Or.inl ⟨by rfl, ?_⟩; (intro w hSw); (try dsimp only at hSw); go_simp; (try with_reducible rfl))); (try simp only [Act.put, List.setIfInBounds_toArray, List.set_cons_zero, List.set_cons_succ])); (refine wpAnyH_take (i := 8) (oi := ?oi44) (v := ?v44) ?hi44 (by kernel_rfl) (by kernel_rfl) (by kernel_rfl) ?hq44 ?hy44 (by assumption) ?hr44; (case hi44 => ((simp only [List.getElem?_toArray, List.getElem?_cons_zero, List.getElem?_cons_succ]); exact rfl)); (case hq44 => exact fun _ _ _ h => h); (case hy44 => (refine Or.inl ⟨by rfl, ?_⟩; (intro w hSw); (try dsimp only at hSw); go_simp; (try with_reducible rfl))); (try simp only [Act.put, List.setIfInBounds_toArray, List.set_cons_zero, List.set_cons_succ]))
        refine wpAnyH_ready (rs := [3]) (by kernel_rfl) (by simp) ?_; refine AllReadyH.cons rfl (fun K hK => ?_) AllReadyH.nil; go_simp
        (go_at_call 125; refine (l1Below_any C N _ (by omega) (by omega) (ScB.of hHeld).dr.cur).mono ?_; rintro e v1 ⟨z1, hz1, rfl, he1⟩)
        go_wp2_with fail
        refine hK.out _ _ ?ks (fun hHeld => ?_); (case ks => (exact ((ScB.of hHeld).drew he1).hold)); clear hK K; (try simp only [Act.put, List.setIfInBounds_toArray, List.set_cons_zero, List.set_cons_succ])
        clear he1
        refine wpAnyH_ready (rs := [9]) (by kernel_rfl) (by simp) ?_; refine AllReadyH.cons rfl (fun K hK => ?_) AllReadyH.nil; go_simp
        (go_at_call 125; refine (l1Below_any C (N + 1) _ (by omega) (by omega) (ScB.of hHeld).dr.cur).mono ?_; rintro e v2 ⟨z2, hz2, rfl, he2⟩)
        go_wp2_with fail
        refine hK.out _ _ ?ks (fun hHeld => ?_); (case ks => (exact ((ScB.of hHeld).drew he2).hold)); clear hK K; (try simp only [Act.put, List.setIfInBounds_toArray, List.set_cons_zero, List.set_cons_succ])
        clear he2
        refine wpAnyH_ready (rs := [10]) (by kernel_rfl) (by simp) ?_; refine AllReadyH.cons rfl (fun K hK => ?_) AllReadyH.nil; go_simp
        (go_at_call 49; refine (sProgressionSet_any b 0 cap l _ _ _ _ (by omega) (ScB.of hHeld).hg).mono ?_; rintro e v3 ⟨rfl, he3⟩)
        go_wp2_with fail
        refine hK.out _ _ ?ks (fun hHeld => ?_); (case ks => (exact ((ScB.of hHeld).step he3).hold)); clear hK K; (try simp only [Act.put, List.setIfInBounds_toArray, List.set_cons_zero, List.set_cons_succ])
        clear he3
        (refine wpAnyH_take (i := 11) (oi := ?oi45) (v := ?v45) ?hi45 (by kernel_rfl) (by kernel_rfl) (by kernel_rfl) ?hq45 ?hy45 (by assumption) ?hr45; (case hi45 => ((simp only [List.getElem?_toArray, List.getElem?_cons_zero, List.getElem?_cons_succ]); exact rfl)); (case hq45 => exact fun _ _ _ h => h); (case hy45 => (refine Or.inl ⟨by rfl, ?_⟩; (intro w hSw); (try dsimp only at hSw); go_simp; (try with_reducible rfl))); (try simp only [Act.put, List.setIfInBounds_toArray, List.set_cons_zero, List.set_cons_succ]))
        refine wpAnyH_done (by kernel_rfl) ?_ _
        have hend := ScB.of hHeld
        go_wp2_with fail
        go_meet
        case rel => exact ⟨_, rfl, progF_I64 _ _ _ _, hend⟩
    rename_i wcxa
    obtain ⟨xa, rfl, hxa, hsxa⟩ := hcut
    clear hs6
    go_wp2_with fail
    go_cut [9] from 10 (fun s w' => ∃ x, s = .int .i64 x ∧ I64 x ∧ ScB w C G b cap l w')
    case first =>
      have hwn : IntKind.i64.wrap ((N : Int) + 1) = ((N + 1 : Nat) : Int) := by rw [IntKind.wrap_i64]; omega
      have hS0 := hsxa.drw.hold
      clear hsxa
      obtain ⟨M, hM, hM1, hM2⟩ : ∃ M : Nat, (if (6 : Int) ≤ ((N + 1 : Nat) : Int) then (6 : Int) else ((N + 1 : Nat) : Int)) = (M : Int) ∧ 1 ≤ M ∧ M ≤ 6 := by
        by_cases h : 6 ≤ N + 1
        · exact ⟨6, by rw [if_pos (by omega)]; rfl, by omega, by omega⟩
        · exact ⟨N + 1, by rw [if_neg (by omega)], by omega, by omega⟩
      have hcase : (6 : Nat) ≤ N + 1 ∨ N + 1 < 6 := by omega
      rcases hcase with hcase | hcase
      · have hI : (6 : Int) ≤ ((N + 1 : Nat) : Int) := by omega
        refine wp_region_held_drew (S := fun w' => w'.cell? ⟨G, 0, none⟩ = some (.slice (some ⟨b, 0, none⟩) l.length cap) ∧ w'.cell? ⟨w.heap.size, 0, none⟩ = some (atR w' w.heap.size) ∧ w'.frozen? ⟨w.heap.size, 0, none⟩ = false ∧ ScB w C G b cap l w') (by kernel_rfl) hS0 (fun hHeld => ?_)
        (refine wpAnyH_take (i := 0) (oi := ?oi46) (v := ?v46) ?hi46 (by kernel_rfl) (by kernel_rfl) (by kernel_rfl) ?hq46 ?hy46 (by assumption) ?hr46; (case hi46 => ((simp only [List.getElem?_toArray, List.getElem?_cons_zero]); exact rfl)); (case hq46 => exact fun _ _ _ h => h); (case hy46 => (refine Or.inl ⟨by rfl, ?_⟩; (intro w hSw); (try dsimp only at hSw); go_simp; (try with_reducible rfl))); (try simp only [Act.put, List.setIfInBounds_toArray, List.set_cons_zero, List.set_cons_succ])); (refine wpAnyH_take (i := 1) (oi := ?oi47) (v := ?v47) ?hi47 (by kernel_rfl) (by kernel_rfl) (by kernel_rfl) ?hq47 ?hy47 (by assumption) ?hr47; (case hi47 => ((simp only [List.getElem?_toArray, List.getElem?_cons_zero, List.getElem?_cons_succ]); exact rfl)); (case hq47 => exact fun _ _ _ h => h); (case hy47 => (refine Or.inl ⟨by rfl, ?_⟩; (intro w hSw); (try dsimp only at hSw); go_simp; (try with_reducible rfl))); (try simp only [Act.put, List.setIfInBounds_toArray, List.set_cons_zero, List.set_cons_succ])); (refine wpAnyH_take (i := 2) (oi := ?oi48) (v := ?v48) ?hi48 (by kernel_rfl) (by kernel_rfl) (by kernel_rfl) ?hq48 ?hy48 (by assumption) ?hr48; (case hi48 => ((simp only [List.getElem?_toArray, List.getElem?_cons_zero, List.getElem?_cons_succ]); exact rfl)); (case hq48 => exact fun _ _ _ h => h); (case hy48 => (refine Or.inl ⟨by rfl, ?_⟩; (intro w hSw); (try dsimp only at hSw); go_simp; (try with_reducible rfl))); (try simp only [Act.put, List.setIfInBounds_toArray, List.set_cons_zero, List.set_cons_succ]))
        (refine wpAnyH_take (i := 4) (oi := ?oi49) (v := ?v49) ?hi49 (by kernel_rfl) (by kernel_rfl) (by kernel_rfl) ?hq49 ?hy49 (by assumption) ?hr49; (case hi49 => ((simp only [List.getElem?_toArray, List.getElem?_cons_zero, List.getElem?_cons_succ]); exact rfl)); (case hq49 => exact fun _ _ _ h => h); (case hy49 => (refine Or.inl ⟨by rfl, ?_⟩; (intro w hSw); (try dsimp only at hSw); go_simp; (try with_reducible rfl))); (try simp only [Act.put, List.setIfInBounds_toArray, List.set_cons_zero, List.set_cons_succ])); (refine wpAnyH_take (i := 5) (oi := ?oi50) (v := ?v50) ?hi50 (by kernel_rfl) (by kernel_rfl) (by kernel_rfl) ?hq50 ?hy50 (by assumption) ?hr50; (case hi50 => ((simp only [List.getElem?_toArray, List.getElem?_cons_zero, List.getElem?_cons_succ]); exact rfl)); (case hq50 => exact fun _ _ _ h => h); (case hy50 => (refine Or.inl ⟨by rfl, ?_⟩; (intro w hSw); (try dsimp only at hSw); go_simp; (try with_reducible rfl))); (try simp only [Act.put, List.setIfInBounds_toArray, List.set_cons_zero, List.set_cons_succ])); (refine wpAnyH_take (i := 6) (oi := ?oi51) (v := ?v51) ?hi51 (by kernel_rfl) (by kernel_rfl) (by kernel_rfl) ?hq51 ?hy51 (by assumption) ?hr51; (case hi51 => ((simp only [List.getElem?_toArray, List.getElem?_cons_zero, List.getElem?_cons_succ]); exact rfl)); (case hq51 => exact fun _ _ _ h => h); (case hy51 => (refine Or.inl ⟨by rfl, ?_⟩; (intro w hSw); (try dsimp only at hSw); go_simp; (try with_reducible rfl))); (try simp only [Act.put, List.setIfInBounds_toArray, List.set_cons_zero, List.set_cons_succ])); (refine wpAnyH_take (i := 7) (oi := ?oi52) (v := ?v52) ?hi52 (by kernel_rfl) (by kernel_rfl) (by kernel_rfl) ?hq52 ?hy52 (by assumption) ?hr52; (case hi52 => ((simp only [List.getElem?_toArray, List.getElem?_cons_zero, List.getElem?_cons_succ]); exact rfl)); (case hq52 => exact fun _ _ _ h => h); (case hy52 => (refine Or.inl ⟨by rfl, ?_⟩; (intro w hSw); (try dsimp only at hSw); go_simp; (try with_reducible rfl))); (try simp only [Act.put, List.setIfInBounds_toArray, List.set_cons_zero, List.set_cons_succ])); (refine wpAnyH_take (i := 8) (oi := ?oi53) (v := ?v53) ?hi53 (by kernel_rfl) (by kernel_rfl) (by kernel_rfl) ?hq53 ?hy53 (by assumption) ?hr53; (case hi53 => ((simp only [List.getElem?_toArray, List.getElem?_cons_zero, List.getElem?_cons_succ]); exact rfl)); (case hq53 => exact fun _ _ _ h => h); (case hy53 => (refine Or.inl ⟨by rfl, ?_⟩; (intro w hSw); (try dsimp only at hSw); go_simp; (try with_reducible rfl))); (try simp only [Act.put, List.setIfInBounds_toArray, List.set_cons_zero, List.set_cons_succ]))
        refine wpAnyH_ready (rs := [3]) (by kernel_rfl) (by simp) ?_; refine AllReadyH.cons rfl (fun K hK => ?_) AllReadyH.nil; go_simp
        (go_at_call 125; refine (l1Below_any C N _ (by omega) (by omega) (ScB.of hHeld).dr.cur).mono ?_; rintro e v1 ⟨z1, hz1, rfl, he1⟩)
        go_wp2_with fail
        refine hK.out _ _ ?ks (fun hHeld => ?_); (case ks => (exact ((ScB.of hHeld).drew he1).hold)); clear hK K; (try simp only [Act.put, List.setIfInBounds_toArray, List.set_cons_zero, List.set_cons_succ])
        clear he1
        refine wpAnyH_ready (rs := [9]) (by kernel_rfl) (by simp) ?_; refine AllReadyH.cons rfl (fun K hK => ?_) AllReadyH.nil; go_simp
        (go_at_call 125; refine (l1Below_any C 6 _ (by omega) (by omega) (ScB.of hHeld).dr.cur).mono ?_; rintro e v2 ⟨z2, hz2, rfl, he2⟩)
        go_wp2_with fail
        refine hK.out _ _ ?ks (fun hHeld => ?_); (case ks => (exact ((ScB.of hHeld).drew he2).hold)); clear hK K; (try simp only [Act.put, List.setIfInBounds_toArray, List.set_cons_zero, List.set_cons_succ])
        clear he2
        refine wpAnyH_ready (rs := [10]) (by kernel_rfl) (by simp) ?_; refine AllReadyH.cons rfl (fun K hK => ?_) AllReadyH.nil; go_simp
        (go_at_call 49; refine (sProgressionSet_any b 0 cap l _ _ _ _ (by omega) (ScB.of hHeld).hg).mono ?_; rintro e v3 ⟨rfl, he3⟩)
        go_wp2_with fail
        refine hK.out _ _ ?ks (fun hHeld => ?_); (case ks => (exact ((ScB.of hHeld).step he3).hold)); clear hK K; (try simp only [Act.put, List.setIfInBounds_toArray, List.set_cons_zero, List.set_cons_succ])
        clear he3
        (refine wpAnyH_take (i := 11) (oi := ?oi54) (v := ?v54) ?hi54 (by kernel_rfl) (by kernel_rfl) (by kernel_rfl) ?hq54 ?hy54 (by assumption) ?hr54; (case hi54 => ((simp only [List.getElem?_toArray, List.getElem?_cons_zero, List.getElem?_cons_succ]); exact rfl)); (case hq54 => exact fun _ _ _ h => h); (case hy54 => (refine Or.inl ⟨by rfl, ?_⟩; (intro w hSw); (try dsimp only at hSw); go_simp; (try with_reducible rfl))); (try simp only [Act.put, List.setIfInBounds_toArray, List.set_cons_zero, List.set_cons_succ]))
        refine wpAnyH_done (by kernel_rfl) ?_ _
        have hend := ScB.of hHeld
        go_wp2_with fail
        go_meet
        case rel => exact ⟨_, rfl, progF_I64 _ _ _ _, hend⟩
      · have hI : ((N + 1 : Nat) : Int) < 6 := by omega
        refine wp_region_held_drew (S := fun w' => w'.cell? ⟨G, 0, none⟩ = some (.slice (some ⟨b, 0, none⟩) l.length cap) ∧ w'.cell? ⟨w.heap.size, 0, none⟩ = some (atR w' w.heap.size) ∧ w'.frozen? ⟨w.heap.size, 0, none⟩ = false ∧ ScB w C G b cap l w') (by kernel_rfl) hS0 (fun hHeld => ?_)
        (refine wpAnyH_take (i := 0) (oi := ?oi55) (v := ?v55) ?hi55 (by kernel_rfl) (by kernel_rfl) (by kernel_rfl) ?hq55 ?hy55 (by assumption) ?hr55; (case hi55 => ((simp only [List.getElem?_toArray, List.getElem?_cons_zero]); exact rfl)); (case hq55 => exact fun _ _ _ h => h); (case hy55 => (refine Or.inl ⟨by rfl, ?_⟩; (intro w hSw); (try dsimp only at hSw); go_simp; (try with_reducible rfl))); (try simp only [Act.put, List.setIfInBounds_toArray, List.set_cons_zero, List.set_cons_succ])); (refine wpAnyH_take (i := 1) (oi := ?oi56) (v := ?v56) ?hi56 (by kernel_rfl) (by kernel_rfl) (by kernel_rfl) ?hq56 ?hy56 (by assumption) ?hr56; (case hi56 => ((simp only [List.getElem?_toArray, List.getElem?_cons_zero, List.getElem?_cons_succ]); exact rfl)); (case hq56 => exact fun _ _ _ h => h); (case hy56 => (refine Or.inl ⟨by rfl, ?_⟩; (intro w hSw); (try dsimp only at hSw); go_simp; (try with_reducible rfl))); (try simp only [Act.put, List.setIfInBounds_toArray, List.set_cons_zero, List.set_cons_succ])); (refine wpAnyH_take (i := 2) (oi := ?oi57) (v := ?v57) ?hi57 (by kernel_rfl) (by kernel_rfl) (by kernel_rfl) ?hq57 ?hy57 (by assumption) ?hr57; (case hi57 => ((simp only [List.getElem?_toArray, List.getElem?_cons_zero, List.getElem?_cons_succ]); exact rfl)); (case hq57 => exact fun _ _ _ h => h); (case hy57 => (refine Or.inl ⟨by rfl, ?_⟩; (intro w hSw); (try dsimp only at hSw); go_simp; (try with_reducible rfl))); (try simp only [Act.put, List.setIfInBounds_toArray, List.set_cons_zero, List.set_cons_succ]))
        (refine wpAnyH_take (i := 4) (oi := ?oi58) (v := ?v58) ?hi58 (by kernel_rfl) (by kernel_rfl) (by kernel_rfl) ?hq58 ?hy58 (by assumption) ?hr58; (case hi58 => ((simp only [List.getElem?_toArray, List.getElem?_cons_zero, List.getElem?_cons_succ]); exact rfl)); (case hq58 => exact fun _ _ _ h => h); (case hy58 => (refine Or.inl ⟨by rfl, ?_⟩; (intro w hSw); (try dsimp only at hSw); go_simp; (try with_reducible rfl))); (try simp only [Act.put, List.setIfInBounds_toArray, List.set_cons_zero, List.set_cons_succ])); (refine wpAnyH_take (i := 5) (oi := ?oi59) (v := ?v59) ?hi59 (by kernel_rfl) (by kernel_rfl) (by kernel_rfl) ?hq59 ?hy59 (by assumption) ?hr59; (case hi59 => ((simp only [List.getElem?_toArray, List.getElem?_cons_zero, List.getElem?_cons_succ]); exact rfl)); (case hq59 => exact fun _ _ _ h => h); (case hy59 => (refine Or.inl ⟨by rfl, ?_⟩; (intro w hSw); (try dsimp only at hSw); go_simp; (try with_reducible rfl))); (try simp only [Act.put, List.setIfInBounds_toArray, List.set_cons_zero, List.set_cons_succ])); (refine wpAnyH_take (i := 6) (oi := ?oi60) (v := ?v60) ?hi60 (by kernel_rfl) (by kernel_rfl) (by kernel_rfl) ?hq60 ?hy60 (by assumption) ?hr60; (case hi60 => ((simp only [List.getElem?_toArray, List.getElem?_cons_zero, List.getElem?_cons_succ]); exact rfl)); (case hq60 => exact fun _ _ _ h => h); (case hy60 => (refine Or.inl ⟨by rfl, ?_⟩; (intro w hSw); (try dsimp only at hSw); go_simp; (try with_reducible rfl))); (try simp only [Act.put, List.setIfInBounds_toArray, List.set_cons_zero, List.set_cons_succ])); (refine wpAnyH_take (i := 7) (oi := ?oi61) (v := ?v61) ?hi61 (by kernel_rfl) (by kernel_rfl) (by kernel_rfl) ?hq61 ?hy61 (by assumption) ?hr61; (case hi61 => ((simp only [List.getElem?_toArray, List.getElem?_cons_zero, List.getElem?_cons_succ]); exact rfl)); (case hq61 => exact fun _ _ _ h => h); (case hy61 => (refine Or.inl ⟨by rfl, ?_⟩; (intro w hSw); (try dsimp only at hSw); go_simp; (try with_reducible rfl))); (try simp only [Act.put, List.setIfInBounds_toArray, List.set_cons_zero, List.set_cons_succ])); (refine wpAnyH_take (i := 8) (oi := ?oi62) (v := ?v62) ?hi62 (by kernel_rfl) (by kernel_rfl) (by kernel_rfl) ?hq62 ?hy62 (by assumption) ?hr62; (case hi62 => ((simp only [List.getElem?_toArray, List.getElem?_cons_zero, List.getElem?_cons_succ]); exact rfl)); (case hq62 => exact fun _ _ _ h => h); (case hy62 => (refine Or.inl ⟨by rfl, ?_⟩; (intro w hSw); (try dsimp only at hSw); go_simp; (try with_reducible rfl))); (try simp only [Act.put, List.setIfInBounds_toArray, List.set_cons_zero, List.set_cons_succ]))
        refine wpAnyH_ready (rs := [3]) (by kernel_rfl) (by simp) ?_; refine AllReadyH.cons rfl (fun K hK => ?_) AllReadyH.nil; go_simp
        (go_at_call 125; refine (l1Below_any C N _ (by omega) (by omega) (ScB.of hHeld).dr.cur).mono ?_; rintro e v1 ⟨z1, hz1, rfl, he1⟩)
        go_wp2_with fail
        refine hK.out _ _ ?ks (fun hHeld => ?_); (case ks => (exact ((ScB.of hHeld).drew he1).hold)); clear hK K; (try simp only [Act.put, List.setIfInBounds_toArray, List.set_cons_zero, List.set_cons_succ])
        clear he1
        refine wpAnyH_ready (rs := [9]) (by kernel_rfl) (by simp) ?_; refine AllReadyH.cons rfl (fun K hK => ?_) AllReadyH.nil; go_simp
        (go_at_call 125; refine (l1Below_any C (N + 1) _ (by omega) (by omega) (ScB.of hHeld).dr.cur).mono ?_; rintro e v2 ⟨z2, hz2, rfl, he2⟩)
        go_wp2_with fail
        refine hK.out _ _ ?ks (fun hHeld => ?_); (case ks => (exact ((ScB.of hHeld).drew he2).hold)); clear hK K; (try simp only [Act.put, List.setIfInBounds_toArray, List.set_cons_zero, List.set_cons_succ])
        clear he2
        refine wpAnyH_ready (rs := [10]) (by kernel_rfl) (by simp) ?_; refine AllReadyH.cons rfl (fun K hK => ?_) AllReadyH.nil; go_simp
        (go_at_call 49; refine (sProgressionSet_any b 0 cap l _ _ _ _ (by omega) (ScB.of hHeld).hg).mono ?_; rintro e v3 ⟨rfl, he3⟩)
        go_wp2_with fail
        refine hK.out _ _ ?ks (fun hHeld => ?_); (case ks => (exact ((ScB.of hHeld).step he3).hold)); clear hK K; (try simp only [Act.put, List.setIfInBounds_toArray, List.set_cons_zero, List.set_cons_succ])
        clear he3
        (refine wpAnyH_take (i := 11) (oi := ?oi63) (v := ?v63) ?hi63 (by kernel_rfl) (by kernel_rfl) (by kernel_rfl) ?hq63 ?hy63 (by assumption) ?hr63; (case hi63 => ((simp only [List.getElem?_toArray, List.getElem?_cons_zero, List.getElem?_cons_succ]); exact rfl)); (case hq63 => exact fun _ _ _ h => h); (case hy63 => (refine Or.inl ⟨by rfl, ?_⟩; (intro w hSw); (try dsimp only at hSw); go_simp; (try with_reducible rfl))); (try simp only [Act.put, List.setIfInBounds_toArray, List.set_cons_zero, List.set_cons_succ]))
        refine wpAnyH_done (by kernel_rfl) ?_ _
        have hend := ScB.of hHeld
        go_wp2_with fail
        go_meet
        case rel => exact ⟨_, rfl, progF_I64 _ _ _ _, hend⟩
    rename_i wcxb
    obtain ⟨xb, rfl, hxb, hsxb⟩ := hcut
    clear hsxa
    have hcG := hsxb.cG
    go_wp2_with fail
    refine (l1Once_any C 3 _ (by omega) (by omega) hsxb.dr.cur).mono ?_; rintro e v4 ⟨t1, rfl, he4⟩
    have hs7 := hsxb.drew he4
    clear hsxb he4 hcG
    have hcG := hs7.cG
    cases t1
    · go_wp2_with fail
      refine (l1Once_any C 3 _ (by omega) (by omega) hs7.dr.cur).mono ?_; rintro e v6 ⟨t2, rfl, he6⟩
      have hs9 := hs7.drew he6
      clear hs7 he6 hcG
      have hcG := hs9.cG
      cases t2
      · obtain ⟨v0, hcR0⟩ := hs9.cR
        have hfR := hs9.fR
        have hfin := hs9.fin (.slice (some ⟨b, 0, none⟩) l.length cap)
        have hcR := hfin.1
        clear hs9
        go_wp2_with fail
        refine bodyPost_ret (v := .tuple #[.agg #[.slice (some ⟨b, 0, none⟩) l.length cap], .int .i64 xa, .int .i64 xb]) (by simp [results, Try.results177, go_sem, hcR]) rfl ?_
        exact ⟨b, cap, l, xa, xb, rfl, by omega, hl, hfin.2.1, hxa, hxb, hfin.2.2⟩
      · go_wp2_with fail
        refine (l3Set_any C b 0 cap l _ hs9.dr.cur (by omega) hs9.hg).mono ?_; rintro e v7 ⟨xd, rfl, hxd, he7⟩
        have hs10 := hs9.drew he7
        clear hs9 he7 hcG
        have hcG := hs10.cG
        obtain ⟨v0, hcR0⟩ := hs10.cR
        have hfR := hs10.fR
        have hfin := hs10.fin (.slice (some ⟨b, 0, none⟩) l.length cap)
        have hcR := hfin.1
        clear hs10
        go_wp2_with fail
        refine bodyPost_ret (v := .tuple #[.agg #[.slice (some ⟨b, 0, none⟩) l.length cap], .int .i64 xa, .int .i64 xd]) (by simp [results, Try.results177, go_sem, hcR]) rfl ?_
        exact ⟨b, cap, l, xa, xd, rfl, by omega, hl, hfin.2.1, hxa, hxd, hfin.2.2⟩
    · go_wp2_with fail
      refine (l3Set_any C b 0 cap l _ hs7.dr.cur (by omega) hs7.hg).mono ?_; rintro e v5 ⟨xc, rfl, hxc, he5⟩
      have hs8 := hs7.drew he5
      clear hs7 he5 hcG
      have hcG := hs8.cG
      go_wp2_with fail
      refine (l1Once_any C 3 _ (by omega) (by omega) hs8.dr.cur).mono ?_; rintro e v6 ⟨t2, rfl, he6⟩
      have hs9 := hs8.drew he6
      clear hs8 he6 hcG
      have hcG := hs9.cG
      cases t2
      · obtain ⟨v0, hcR0⟩ := hs9.cR
        have hfR := hs9.fR
        have hfin := hs9.fin (.slice (some ⟨b, 0, none⟩) l.length cap)
        have hcR := hfin.1
        clear hs9
        go_wp2_with fail
        refine bodyPost_ret (v := .tuple #[.agg #[.slice (some ⟨b, 0, none⟩) l.length cap], .int .i64 xc, .int .i64 xb]) (by simp [results, Try.results177, go_sem, hcR]) rfl ?_
        exact ⟨b, cap, l, xc, xb, rfl, by omega, hl, hfin.2.1, hxc, hxb, hfin.2.2⟩
      · go_wp2_with fail
        refine (l3Set_any C b 0 cap l _ hs9.dr.cur (by omega) hs9.hg).mono ?_; rintro e v7 ⟨xd, rfl, hxd, he7⟩
        have hs10 := hs9.drew he7
        clear hs9 he7 hcG
        have hcG := hs10.cG
        obtain ⟨v0, hcR0⟩ := hs10.cR
        have hfR := hs10.fR
        have hfin := hs10.fin (.slice (some ⟨b, 0, none⟩) l.length cap)
        have hcR := hfin.1
        clear hs10
        go_wp2_with fail
        refine bodyPost_ret (v := .tuple #[.agg #[.slice (some ⟨b, 0, none⟩) l.length cap], .int .i64 xc, .int .i64 xd]) (by simp [results, Try.results177, go_sem, hcR]) rfl ?_
        exact ⟨b, cap, l, xc, xd, rfl, by omega, hl, hfin.2.1, hxc, hxd, hfin.2.2⟩
end Go.Proofs.Ytpflnmcecnbilaa
