/-
  Contracts of the reference's drawing: what the smallest basis draws.
-/
import Derived.Test.YtpflnmcecnbilaaDraw12
namespace Go.Proofs.Ytpflnmcecnbilaa
open Go.RowKit

theorem Scn.setG {w wr : World} {C G b cap b' cap' : Nat} {l l' : List Int} (h : Scn w C G b cap l wr) (hb : C < b') (ne : b' ≠ G) (hl : l'.length ≤ 4) (hg : GrpAt wr b' 0 l') :
    Scn w C G b' cap' l' (wr.setCell ⟨G, 0, none⟩ (.slice (some ⟨b', 0, none⟩) l'.length cap')) := by
  have h1 := h.hC; have h2 := h.hG; have h3 := h.hb
  have e : ∀ k j, k ≠ G → (wr.setCell ⟨G, 0, none⟩ (.slice (some ⟨b', 0, none⟩) l'.length cap')).cell? ⟨k, j, none⟩ = wr.cell? ⟨k, j, none⟩ := fun k j hk => World.cell?_of_block (Below.heap_setCell _ _ _ _ hk)
  refine ⟨h.below.setCell (by show w.heap.size ≤ G; omega) _, h.cur.store h.code (by omega) (by omega) _, ?_, h.hC, ?_, by simpa using h.fR, by simpa using h.lR, h.hG, by simpa using h.lG, setC_eq h.cG, hb, ne, hl, hg.setCell ne _⟩
  · obtain ⟨a, n, cp, e', hlt⟩ := h.code; exact ⟨a, n, cp, (e C 0 (by omega)).trans e', hlt⟩
  · obtain ⟨u, hu⟩ := h.cR; exact ⟨u, (e w.heap.size 0 (by omega)).trans hu⟩
set_option maxHeartbeats 1000000 in
theorem DrawSmallestBasis_any (a : Option Addr) (n cp : Nat) (w : World) (hn : n ≤ 1099511627776) (hb : BytesV w a n) :
    Calls Try.prog 102 #[.slice a n cp] w (Drawn1 w) := by
  have hb0 := hb.below ((Below.refl _ _).alloc (Nat.le_refl _) (.cells #[.slice none 0 0] 26))
  go_enter Try.func102, Try.ntmps102
  go_wp2_with fail
  generalize h0 : w.alloc (.cells #[.slice none 0 0] 26) = w0 at *
  refine (l1New_any a n cp w0 hn hb0).mono ?_; rintro e w2 ⟨C, rfl, hC, hb2, hc, hcd⟩
  go_wp2_with fail
  refine (l2Draw_any C 8 w2 hc).mono ?_; rintro e w3 ⟨b, cap, l, rfl, hbb, hl, hg, hd⟩
  have hs := Scn.init hb 26 h0 hC hb2 hc hcd hd hbb hl (cap := cap) hg
  have hfG : (w3.alloc (.cells #[.slice (some ⟨b, 0, none⟩) l.length cap] 26)).frozen? ⟨w3.heap.size, 0, none⟩ = false := by rw [World.frozen?_alloc_at _ _ _ _ rfl]
  clear h0 hb0 hb hC hb2 hc hcd hd hbb hg hl
  generalize hG : w3.heap.size = G at *
  have hcG := hs.cG
  go_wp2_with fail
  generalize w3.alloc (.cells #[.slice (some ⟨b, 0, none⟩) l.length cap] 26) = wr at *
  clear hG
  refine (l1Once_any C 8 _ (by omega) (by omega) hs.cur).mono ?_; rintro e u1 ⟨t, rfl, hd1⟩
  have hs2 := hs.drew hd1
  have hfG2 := (hd1.fz (b := G) (j := 0) hs.lG (Nat.ne_of_gt hs.hG)).trans hfG
  clear hs hd1 hcG hfG
  have hcG := hs2.cG
  cases t
  · go_wp2_with fail
    have hs1 := hs2.drw.hold
    clear hs2
    go_region_held3 (fun w' => w'.cell? ⟨G, 0, none⟩ = some (.slice (some ⟨b, 0, none⟩) l.length cap) ∧ w'.cell? ⟨w.heap.size, 0, none⟩ = some (atR w' w.heap.size) ∧ w'.frozen? ⟨w.heap.size, 0, none⟩ = false ∧ Scn w C G b cap l w') (first | exact hs1 | exact (Scn.drew (Scn.of (by assumption)) hd5).hold | exact (Scn.setR (Scn.of (by assumption)) _).hold | assumption)
      (first | (go_at_call 125; refine (l1Below_any C 6 _ (by omega) (by omega) (Scn.cur (Scn.of (by assumption)))).mono ?_; rintro e w5 ⟨x, hx, rfl, hd5⟩))
    have hfin := (Scn.drew (Scn.of hs1) hd5).fin (.slice (some ⟨b, 0, none⟩) l.length cap)
    have hcR := hfin.1
    have hbw := (Scn.of hs1).below.size
    have hCb := (Scn.of hs1).hC
    have hbC := (Scn.of hs1).hb
    have hll := (Scn.of hs1).hl
    go_wp2
    refine bodyPost_ret (v := .tuple #[.agg #[.slice (some ⟨b, 0, none⟩) l.length cap], .int .i64 x]) (by simp [results, Try.results102, go_sem, hcR]) rfl ?_
    exact ⟨b, cap, l, x, rfl, by omega, hll, hfin.2.1, I64_nat (by omega), hfin.2.2⟩
  · go_wp2_with fail
    refine (l2Any_any C u1 hs2.cur).mono ?_; rintro e u3 ⟨b2, cap2, l2, rfl, hbb2, hl2, hg2, hd2⟩
    have hs3 := hs2.drew hd2
    have hfG3 := (hd2.fz (b := G) (j := 0) hs2.lG (Nat.ne_of_gt hs2.hG)).trans hfG2
    have hs4 := hs3.setG (cap' := cap2) (by have := hs2.hG; have := hs2.lG; omega) (by have := hs2.lG; omega) hl2 hg2
    have hcG3 := hs3.cG
    clear hs2 hcG hfG2 hbb2 hg2 hd2
    go_wp2_with fail
    generalize u3.setCell ⟨G, 0, none⟩ (.slice (some ⟨b2, 0, none⟩) l2.length cap2) = u4 at *
    clear hs3 hcG3 hfG3
    have hs1 := hs4.drw.hold
    clear hs4
    go_region_held3 (fun w' => w'.cell? ⟨G, 0, none⟩ = some (.slice (some ⟨b2, 0, none⟩) l2.length cap2) ∧ w'.cell? ⟨w.heap.size, 0, none⟩ = some (atR w' w.heap.size) ∧ w'.frozen? ⟨w.heap.size, 0, none⟩ = false ∧ Scn w C G b2 cap2 l2 w') (first | exact hs1 | exact (Scn.drew (Scn.of (by assumption)) hd5).hold | exact (Scn.setR (Scn.of (by assumption)) _).hold | assumption)
      (first | (go_at_call 125; refine (l1Below_any C 6 _ (by omega) (by omega) (Scn.cur (Scn.of (by assumption)))).mono ?_; rintro e w5 ⟨x, hx, rfl, hd5⟩))
    have hfin := (Scn.drew (Scn.of hs1) hd5).fin (.slice (some ⟨b2, 0, none⟩) l2.length cap2)
    have hcR := hfin.1
    have hbw := (Scn.of hs1).below.size
    have hCb := (Scn.of hs1).hC
    have hbC := (Scn.of hs1).hb
    have hll := (Scn.of hs1).hl
    go_wp2
    refine bodyPost_ret (v := .tuple #[.agg #[.slice (some ⟨b2, 0, none⟩) l2.length cap2], .int .i64 x]) (by simp [results, Try.results102, go_sem, hcR]) rfl ?_
    exact ⟨b2, cap2, l2, x, rfl, by omega, hll, hfin.2.1, I64_nat (by omega), hfin.2.2⟩
end Go.Proofs.Ytpflnmcecnbilaa
