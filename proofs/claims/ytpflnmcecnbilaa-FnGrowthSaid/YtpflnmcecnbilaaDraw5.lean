/-
  Contracts of the reference's drawing: what the laws draw.
-/
import Derived.Test.YtpflnmcecnbilaaDraw4
import Derived.Test.YtpflnmcecnbilaaLeast2
import Derived.Test.YtpflnmcecnbilaaCover
import Derived.BigRegion
namespace Go.Proofs.Ytpflnmcecnbilaa
open Go.RowKit

/-- behind the inner call of a function that hands on what another drew -/
structure Wrp0 (w w2 : World) (b : Nat) (l : List Int) : Prop where
  below : Below w.heap.size w w2
  cR : w2.cell? ⟨w.heap.size, 0, none⟩ = some (.slice none 0 0)
  fR : w2.frozen? ⟨w.heap.size, 0, none⟩ = false
  lR : w.heap.size < w2.heap.size
  hb : w.heap.size < b
  hg : GrpAt w2 b 0 l
/-- the same with the group's box G -/
structure Wrp (w : World) (G b cap : Nat) (l : List Int) (wr : World) : Prop where
  below : Below w.heap.size w wr
  cR : ∃ v, wr.cell? ⟨w.heap.size, 0, none⟩ = some v
  fR : wr.frozen? ⟨w.heap.size, 0, none⟩ = false
  lR : w.heap.size < wr.heap.size
  hG : w.heap.size < G
  lG : G < wr.heap.size
  cG : wr.cell? ⟨G, 0, none⟩ = some (.slice (some ⟨b, 0, none⟩) l.length cap)
  hb : w.heap.size < b
  hg : GrpAt wr b 0 l
section
variable {w w0 w2 wr w1 : World} {G b cap : Nat} {l : List Int}
theorem Wrp0.init (t : TypeId) (h0 : w.alloc (.cells #[.slice none 0 0] t) = w0) (hb2 : Below w0.heap.size w0 w2) (hb : w0.heap.size ≤ b) (hg : GrpAt w2 b 0 l) : Wrp0 w w2 b l := by
  have hs0 : w0.heap.size = w.heap.size + 1 := by rw [← h0]; simp
  have hbw : Below w.heap.size w w0 := by rw [← h0]; exact (Below.refl _ _).alloc (Nat.le_refl _) _
  have c0 : w0.cell? ⟨w.heap.size, 0, none⟩ = some (.slice none 0 0) := by rw [← h0]; exact box_new _ _ _
  have f0 : w0.frozen? ⟨w.heap.size, 0, none⟩ = false := by rw [← h0, World.frozen?_alloc_at _ _ _ _ rfl]
  have hs2 := hb2.size
  exact ⟨hbw.trans (hb2.mono hbw.size), (hb2.cell (p := ⟨w.heap.size, 0, none⟩) (by show w.heap.size < _; omega)).trans c0, (hb2.frozen (p := ⟨w.heap.size, 0, none⟩) (by show w.heap.size < _; omega)).trans f0, by omega, by omega, hg⟩
/-- a store into the result's cell, the group's box behind it -/
theorem Wrp0.fin (h : Wrp0 w w2 b l) (v : Value) (o : Obj) : ((w2.setCell ⟨w.heap.size, 0, none⟩ v).alloc o).cell? ⟨w.heap.size, 0, none⟩ = some v ∧ GrpAt ((w2.setCell ⟨w.heap.size, 0, none⟩ v).alloc o) b 0 l ∧ Below w.heap.size w ((w2.setCell ⟨w.heap.size, 0, none⟩ v).alloc o) := by
  have h1 := h.lR
  have h2 := h.hb
  exact ⟨cell_alloc (setC_eq h.cR) (by simpa using h.lR) o, (h.hg.setCell (by omega) v).alloc o, (h.below.setCell (Nat.le_refl _) v).alloc (by simp; omega) o⟩
theorem Wrp0.fin0 (h : Wrp0 w w2 b l) (v : Value) : (w2.setCell ⟨w.heap.size, 0, none⟩ v).cell? ⟨w.heap.size, 0, none⟩ = some v ∧ GrpAt (w2.setCell ⟨w.heap.size, 0, none⟩ v) b 0 l ∧ Below w.heap.size w (w2.setCell ⟨w.heap.size, 0, none⟩ v) := by
  have h2 := h.hb
  exact ⟨setC_eq h.cR, h.hg.setCell (by omega) v, h.below.setCell (Nat.le_refl _) v⟩
theorem Wrp0.box (h : Wrp0 w w2 b l) (cap : Nat) (t : TypeId) : Wrp w w2.heap.size b cap l (w2.alloc (.cells #[.slice (some ⟨b, 0, none⟩) l.length cap] t)) :=
  ⟨h.below.alloc (Nat.le_of_lt h.lR) _, ⟨_, cell_alloc h.cR h.lR _⟩, by rw [frozen?_alloc_cells]; exact h.fR, by have := h.lR; simp; omega, h.lR, by simp, box_new _ _ _, h.hb, h.hg.alloc _⟩
theorem Wrp.step (h : Wrp w G b cap l wr) (hb : Below wr.heap.size wr w1) : Wrp w G b cap l w1 := by
  refine ⟨h.below.trans (hb.mono (Nat.le_of_lt h.lR) |>.mono (Nat.le_refl _)), ?_, (hb.frozen (p := ⟨w.heap.size, 0, none⟩) h.lR).trans h.fR, Nat.lt_of_lt_of_le h.lR hb.size, h.hG, Nat.lt_of_lt_of_le h.lG hb.size, (hb.cell (p := ⟨G, 0, none⟩) h.lG).trans h.cG, h.hb, h.hg.below hb⟩
  obtain ⟨v, hv⟩ := h.cR
  exact ⟨v, (hb.cell (p := ⟨w.heap.size, 0, none⟩) h.lR).trans hv⟩
theorem Wrp.drw (h : Wrp w G b cap l wr) : Wrp w G b cap l wr.drew := h.step (Below.refl _ _).drew
theorem Wrp.alloc (h : Wrp w G b cap l wr) (o : Obj) : Wrp w G b cap l (wr.alloc o) := h.step ((Below.refl _ _).alloc (Nat.le_refl _) o)
theorem Wrp.setR (h : Wrp w G b cap l wr) (v : Value) : Wrp w G b cap l (wr.setCell ⟨w.heap.size, 0, none⟩ v) := by
  have h2 := h.hG; have h3 := h.hb
  have e : ∀ k j, k ≠ w.heap.size → (wr.setCell ⟨w.heap.size, 0, none⟩ v).cell? ⟨k, j, none⟩ = wr.cell? ⟨k, j, none⟩ := fun k j hk => World.cell?_of_block (Below.heap_setCell _ _ _ _ hk)
  refine ⟨h.below.setCell (Nat.le_refl _) v, ?_, by simpa using h.fR, by simpa using h.lR, h.hG, by simpa using h.lG, (e G 0 (by omega)).trans h.cG, h.hb, h.hg.setCell (by omega) v⟩
  obtain ⟨u, hu⟩ := h.cR; exact ⟨v, setC_eq hu⟩
theorem Wrp.fin (h : Wrp w G b cap l wr) (v : Value) : (wr.setCell ⟨w.heap.size, 0, none⟩ v).cell? ⟨w.heap.size, 0, none⟩ = some v ∧ GrpAt (wr.setCell ⟨w.heap.size, 0, none⟩ v) b 0 l ∧ Below w.heap.size w (wr.setCell ⟨w.heap.size, 0, none⟩ v) := by
  obtain ⟨u, hu⟩ := h.cR
  exact ⟨setC_eq hu, (h.setR v).hg, (h.setR v).below⟩
/-- the same with a block laid behind the store -/
theorem Wrp.fin1 (h : Wrp w G b cap l wr) (v : Value) (o : Obj) : ((wr.setCell ⟨w.heap.size, 0, none⟩ v).alloc o).cell? ⟨w.heap.size, 0, none⟩ = some v ∧ GrpAt ((wr.setCell ⟨w.heap.size, 0, none⟩ v).alloc o) b 0 l ∧ Below w.heap.size w ((wr.setCell ⟨w.heap.size, 0, none⟩ v).alloc o) := by
  obtain ⟨u, hu⟩ := h.cR
  have h1 := h.lR
  exact ⟨cell_alloc (setC_eq hu) (by simpa using h.lR) o, (h.setR v).hg.alloc o, (h.setR v).below.alloc (by simp; omega) o⟩
theorem Wrp.hold (h : Wrp w G b cap l wr) : wr.cell? ⟨G, 0, none⟩ = some (.slice (some ⟨b, 0, none⟩) l.length cap) ∧ wr.cell? ⟨w.heap.size, 0, none⟩ = some (atR wr w.heap.size) ∧ wr.frozen? ⟨w.heap.size, 0, none⟩ = false ∧ Wrp w G b cap l wr :=
  ⟨h.cG, by obtain ⟨v, hv⟩ := h.cR; unfold atR; rw [hv]; rfl, h.fR, h⟩
theorem Wrp.of {X Y Z : Prop} (h : X ∧ Y ∧ Z ∧ Wrp w G b cap l wr) : Wrp w G b cap l wr := h.2.2.2
end
theorem I64_nat {n : Nat} (h : n ≤ 16777216) : I64 (n : Int) := ⟨by omega, by omega⟩
set_option maxHeartbeats 1000000 in
theorem DrawLeastRatio_any (a : Option Addr) (n cp : Nat) (w : World) (hn : n ≤ 1099511627776) (hb : BytesV w a n) :
    Calls Try.prog 11 #[.slice a n cp] w (Drawn2 w) := by
  have hb0 := hb.below ((Below.refl _ _).alloc (Nat.le_refl _) (.cells #[.slice none 0 0] 26))
  go_enter Try.func11, Try.ntmps11
  go_wp2_with fail
  generalize h0 : w.alloc (.cells #[.slice none 0 0] 26) = w0 at *
  refine (l3Two_any a n cp w0 hn hb0).mono ?_; rintro e w2 ⟨b, cap, l, x1, x2, rfl, hbb, hl, hg, hx1, hx2, hb2⟩
  have hs := Wrp0.init 26 h0 hb2 hbb hg
  have hbb2 := Nat.le_of_lt hs.hb
  clear h0 hb0 hb hb2 hg hbb
  have hlR := hs.lR
  have hcR0 := hs.cR
  have hfR := hs.fR
  have hfin := hs.fin (.slice (some ⟨b, 0, none⟩) l.length cap) (.cells #[.slice (some ⟨b, 0, none⟩) l.length cap] 26)
  have hcR := hfin.1
  clear hs
  go_wp2_with fail
  refine bodyPost_ret (v := .tuple #[.agg #[.slice (some ⟨b, 0, none⟩) l.length cap], .int .i64 x1, .int .i64 x2]) (by simp [results, Try.results11, go_sem, hcR]) rfl ?_
  exact ⟨b, cap, l, x1, x2, rfl, hbb2, hl, hfin.2.1, hx1, hx2, hfin.2.2⟩
set_option maxHeartbeats 1000000 in
theorem DrawRatioOf_any (a : Option Addr) (n cp : Nat) (w : World) (hn : n ≤ 1099511627776) (hb : BytesV w a n) :
    Calls Try.prog 25 #[.slice a n cp] w (Drawn2 w) := by
  have hb0 := hb.below ((Below.refl _ _).alloc (Nat.le_refl _) (.cells #[.slice none 0 0] 26))
  go_enter Try.func25, Try.ntmps25
  go_wp2_with fail
  generalize h0 : w.alloc (.cells #[.slice none 0 0] 26) = w0 at *
  refine (l3Two_any a n cp w0 hn hb0).mono ?_; rintro e w2 ⟨b, cap, l, x1, x2, rfl, hbb, hl, hg, hx1, hx2, hb2⟩
  have hs := Wrp0.init 26 h0 hb2 hbb hg
  have hbb2 := Nat.le_of_lt hs.hb
  clear h0 hb0 hb hb2 hg hbb
  have hlR := hs.lR
  have hcR0 := hs.cR
  have hfR := hs.fR
  have hfin := hs.fin (.slice (some ⟨b, 0, none⟩) l.length cap) (.cells #[.slice (some ⟨b, 0, none⟩) l.length cap] 26)
  have hcR := hfin.1
  clear hs
  go_wp2_with fail
  refine bodyPost_ret (v := .tuple #[.agg #[.slice (some ⟨b, 0, none⟩) l.length cap], .int .i64 x1, .int .i64 x2]) (by simp [results, Try.results25, go_sem, hcR]) rfl ?_
  exact ⟨b, cap, l, x1, x2, rfl, hbb2, hl, hfin.2.1, hx1, hx2, hfin.2.2⟩
set_option maxHeartbeats 1000000 in
theorem DrawRuzsaCover_any (a : Option Addr) (n cp : Nat) (w : World) (hn : n ≤ 1099511627776) (hb : BytesV w a n) :
    Calls Try.prog 65 #[.slice a n cp] w (Drawn2 w) := by
  have hb0 := hb.below ((Below.refl _ _).alloc (Nat.le_refl _) (.cells #[.slice none 0 0] 26))
  go_enter Try.func65, Try.ntmps65
  go_wp2_with fail
  generalize h0 : w.alloc (.cells #[.slice none 0 0] 26) = w0 at *
  refine (l3Two_any a n cp w0 hn hb0).mono ?_; rintro e w2 ⟨b, cap, l, x1, x2, rfl, hbb, hl, hg, hx1, hx2, hb2⟩
  have hs := Wrp0.init 26 h0 hb2 hbb hg
  have hbb2 := Nat.le_of_lt hs.hb
  clear h0 hb0 hb hb2 hg hbb
  have hlR := hs.lR
  have hcR0 := hs.cR
  have hfR := hs.fR
  have hfin := hs.fin (.slice (some ⟨b, 0, none⟩) l.length cap) (.cells #[.slice (some ⟨b, 0, none⟩) l.length cap] 26)
  have hcR := hfin.1
  clear hs
  go_wp2_with fail
  refine bodyPost_ret (v := .tuple #[.agg #[.slice (some ⟨b, 0, none⟩) l.length cap], .int .i64 x1, .int .i64 x2]) (by simp [results, Try.results65, go_sem, hcR]) rfl ?_
  exact ⟨b, cap, l, x1, x2, rfl, hbb2, hl, hfin.2.1, hx1, hx2, hfin.2.2⟩
set_option maxHeartbeats 1000000 in
theorem DrawPackedShifts_any (a : Option Addr) (n cp : Nat) (w : World) (hn : n ≤ 1099511627776) (hb : BytesV w a n) :
    Calls Try.prog 74 #[.slice a n cp] w (Drawn2 w) := by
  have hb0 := hb.below ((Below.refl _ _).alloc (Nat.le_refl _) (.cells #[.slice none 0 0] 26))
  go_enter Try.func74, Try.ntmps74
  go_wp2_with fail
  generalize h0 : w.alloc (.cells #[.slice none 0 0] 26) = w0 at *
  refine (l3Two_any a n cp w0 hn hb0).mono ?_; rintro e w2 ⟨b, cap, l, x1, x2, rfl, hbb, hl, hg, hx1, hx2, hb2⟩
  have hs := Wrp0.init 26 h0 hb2 hbb hg
  have hbb2 := Nat.le_of_lt hs.hb
  clear h0 hb0 hb hb2 hg hbb
  have hlR := hs.lR
  have hcR0 := hs.cR
  have hfR := hs.fR
  have hfin := hs.fin (.slice (some ⟨b, 0, none⟩) l.length cap) (.cells #[.slice (some ⟨b, 0, none⟩) l.length cap] 26)
  have hcR := hfin.1
  clear hs
  go_wp2_with fail
  refine bodyPost_ret (v := .tuple #[.agg #[.slice (some ⟨b, 0, none⟩) l.length cap], .int .i64 x1, .int .i64 x2]) (by simp [results, Try.results74, go_sem, hcR]) rfl ?_
  exact ⟨b, cap, l, x1, x2, rfl, hbb2, hl, hfin.2.1, hx1, hx2, hfin.2.2⟩
set_option maxHeartbeats 1000000 in
theorem DrawTriangleGap_any (a : Option Addr) (n cp : Nat) (w : World) (hn : n ≤ 1099511627776) (hb : BytesV w a n) :
    Calls Try.prog 60 #[.slice a n cp] w (Drawn3 w) := by
  have hb0 := hb.below ((Below.refl _ _).alloc (Nat.le_refl _) (.cells #[.slice none 0 0] 26))
  go_enter Try.func60, Try.ntmps60
  go_wp2_with fail
  generalize h0 : w.alloc (.cells #[.slice none 0 0] 26) = w0 at *
  refine (l12Three_any a n cp w0 hn hb0).mono ?_; rintro e w2 ⟨b, cap, l, x1, x2, x3, rfl, hbb, hl, hg, hx1, hx2, hx3, hb2⟩
  have hs := Wrp0.init 26 h0 hb2 hbb hg
  have hbb2 := Nat.le_of_lt hs.hb
  clear h0 hb0 hb hb2 hg hbb
  have hlR := hs.lR
  have hcR0 := hs.cR
  have hfR := hs.fR
  have hfin := hs.fin (.slice (some ⟨b, 0, none⟩) l.length cap) (.cells #[.slice (some ⟨b, 0, none⟩) l.length cap] 26)
  have hcR := hfin.1
  clear hs
  go_wp2_with fail
  refine bodyPost_ret (v := .tuple #[.agg #[.slice (some ⟨b, 0, none⟩) l.length cap], .int .i64 x1, .int .i64 x2, .int .i64 x3]) (by simp [results, Try.results60, go_sem, hcR]) rfl ?_
  exact ⟨b, cap, l, x1, x2, x3, rfl, hbb2, hl, hfin.2.1, hx1, hx2, hx3, hfin.2.2⟩
set_option maxHeartbeats 1000000 in
theorem DrawOrderOfBasis_any (a : Option Addr) (n cp : Nat) (w : World) (hn : n ≤ 1099511627776) (hb : BytesV w a n) :
    Calls Try.prog 97 #[.slice a n cp] w (Drawn1 w) := by
  have hb0 := hb.below ((Below.refl _ _).alloc (Nat.le_refl _) (.cells #[.slice none 0 0] 26))
  go_enter Try.func97, Try.ntmps97
  go_wp2_with fail
  generalize h0 : w.alloc (.cells #[.slice none 0 0] 26) = w0 at *
  refine (l3One_any a n cp w0 hn hb0).mono ?_; rintro e w2 ⟨b, cap, l, x1, rfl, hbb, hl, hg, hx1, hb2⟩
  have hs := Wrp0.init 26 h0 hb2 hbb hg
  have hbb2 := Nat.le_of_lt hs.hb
  clear h0 hb0 hb hb2 hg hbb
  have hlR := hs.lR
  have hcR0 := hs.cR
  have hfR := hs.fR
  have hfin := hs.fin (.slice (some ⟨b, 0, none⟩) l.length cap) (.cells #[.slice (some ⟨b, 0, none⟩) l.length cap] 26)
  have hcR := hfin.1
  clear hs
  go_wp2_with fail
  refine bodyPost_ret (v := .tuple #[.agg #[.slice (some ⟨b, 0, none⟩) l.length cap], .int .i64 x1]) (by simp [results, Try.results97, go_sem, hcR]) rfl ?_
  exact ⟨b, cap, l, x1, rfl, hbb2, hl, hfin.2.1, hx1, hfin.2.2⟩
set_option maxHeartbeats 1000000 in
theorem DrawStableSize_any (a : Option Addr) (n cp : Nat) (w : World) (hn : n ≤ 1099511627776) (hb : BytesV w a n) :
    Calls Try.prog 108 #[.slice a n cp] w (Drawn1 w) := by
  have hb0 := hb.below ((Below.refl _ _).alloc (Nat.le_refl _) (.cells #[.slice none 0 0] 26))
  go_enter Try.func108, Try.ntmps108
  go_wp2_with fail
  generalize h0 : w.alloc (.cells #[.slice none 0 0] 26) = w0 at *
  refine (l3One_any a n cp w0 hn hb0).mono ?_; rintro e w2 ⟨b, cap, l, x1, rfl, hbb, hl, hg, hx1, hb2⟩
  have hs := Wrp0.init 26 h0 hb2 hbb hg
  have hbb2 := Nat.le_of_lt hs.hb
  clear h0 hb0 hb hb2 hg hbb
  have hlR := hs.lR
  have hcR0 := hs.cR
  have hfR := hs.fR
  have hfin := hs.fin (.slice (some ⟨b, 0, none⟩) l.length cap) (.cells #[.slice (some ⟨b, 0, none⟩) l.length cap] 26)
  have hcR := hfin.1
  clear hs
  go_wp2_with fail
  refine bodyPost_ret (v := .tuple #[.agg #[.slice (some ⟨b, 0, none⟩) l.length cap], .int .i64 x1]) (by simp [results, Try.results108, go_sem, hcR]) rfl ?_
  exact ⟨b, cap, l, x1, rfl, hbb2, hl, hfin.2.1, hx1, hfin.2.2⟩
set_option maxHeartbeats 1000000 in
theorem DrawSumDifferenceGap_any (a : Option Addr) (n cp : Nat) (w : World) (hn : n ≤ 1099511627776) (hb : BytesV w a n) :
    Calls Try.prog 71 #[.slice a n cp] w (Drawn1 w) := by
  have hb0 := hb.below ((Below.refl _ _).alloc (Nat.le_refl _) (.cells #[.slice none 0 0] 26))
  go_enter Try.func71, Try.ntmps71
  go_wp2_with fail
  generalize h0 : w.alloc (.cells #[.slice none 0 0] 26) = w0 at *
  refine (l3One_any a n cp w0 hn hb0).mono ?_; rintro e w2 ⟨b, cap, l, x1, rfl, hbb, hl, hg, hx1, hb2⟩
  have hs := Wrp0.init 26 h0 hb2 hbb hg
  have hbb2 := Nat.le_of_lt hs.hb
  clear h0 hb0 hb hb2 hg hbb
  have hlR := hs.lR
  have hcR0 := hs.cR
  have hfR := hs.fR
  have hfin := hs.fin (.slice (some ⟨b, 0, none⟩) l.length cap) (.cells #[.slice (some ⟨b, 0, none⟩) l.length cap] 26)
  have hcR := hfin.1
  clear hs
  go_wp2_with fail
  refine bodyPost_ret (v := .tuple #[.agg #[.slice (some ⟨b, 0, none⟩) l.length cap], .int .i64 x1]) (by simp [results, Try.results71, go_sem, hcR]) rfl ?_
  exact ⟨b, cap, l, x1, rfl, hbb2, hl, hfin.2.1, hx1, hfin.2.2⟩
set_option maxHeartbeats 1000000 in
theorem DrawLongestProgression_any (a : Option Addr) (n cp : Nat) (w : World) (hn : n ≤ 1099511627776) (hb : BytesV w a n) :
    Calls Try.prog 46 #[.slice a n cp] w (Drawn1 w) := by
  have hb0 := hb.below ((Below.refl _ _).alloc (Nat.le_refl _) (.cells #[.slice none 0 0] 26))
  go_enter Try.func46, Try.ntmps46
  go_wp2_with fail
  generalize h0 : w.alloc (.cells #[.slice none 0 0] 26) = w0 at *
  refine (l3One_any a n cp w0 hn hb0).mono ?_; rintro e w2 ⟨b, cap, l, x1, rfl, hbb, hl, hg, hx1, hb2⟩
  have hs := Wrp0.init 26 h0 hb2 hbb hg
  have hbb2 := Nat.le_of_lt hs.hb
  clear h0 hb0 hb hb2 hg hbb
  have hlR := hs.lR
  have hcR0 := hs.cR
  have hfR := hs.fR
  have hfin := hs.fin (.slice (some ⟨b, 0, none⟩) l.length cap) (.cells #[.slice (some ⟨b, 0, none⟩) l.length cap] 26)
  have hcR := hfin.1
  clear hs
  go_wp2_with fail
  refine bodyPost_ret (v := .tuple #[.agg #[.slice (some ⟨b, 0, none⟩) l.length cap], .int .i64 x1]) (by simp [results, Try.results46, go_sem, hcR]) rfl ?_
  exact ⟨b, cap, l, x1, rfl, hbb2, hl, hfin.2.1, hx1, hfin.2.2⟩
set_option maxHeartbeats 1000000 in
theorem DrawIteratedSizes_any (a : Option Addr) (n cp : Nat) (w : World) (hn : n ≤ 1099511627776) (hb : BytesV w a n) :
    Calls Try.prog 23 #[.slice a n cp] w (Drawn3 w) := by
  have hb0 := hb.below ((Below.refl _ _).alloc (Nat.le_refl _) (.cells #[.slice none 0 0] 26))
  go_enter Try.func23, Try.ntmps23
  go_wp2_with fail
  generalize h0 : w.alloc (.cells #[.slice none 0 0] 26) = w0 at *
  refine (l3Two_any a n cp w0 hn hb0).mono ?_; rintro e w2 ⟨b, cap, l, x1, x2, rfl, hbb, hl, hg, hx1, hx2, hb2⟩
  have hs := Wrp0.init 26 h0 hb2 hbb hg
  have hbb2 := Nat.le_of_lt hs.hb
  clear h0 hb0 hb hb2 hg hbb
  have hs2 := hs.box cap 26
  have hlR := hs.lR
  clear hs
  generalize hG : w2.heap.size = G at *
  go_wp2_with fail
  generalize w2.alloc (.cells #[.slice (some ⟨b, 0, none⟩) l.length cap] 26) = wr at *
  clear hG
  have hcG := hs2.cG
  obtain ⟨v0, hcR0⟩ := hs2.cR
  have hfR := hs2.fR
  have hlR2 := hs2.lR
  have hlG2 := hs2.lG
  have hs3 := hid hs2
  clear hs2
  have ht : ((n : Int).tmod 6) = (n : Int) % 6 := Int.tmod_eq_emod_of_nonneg (by omega)
  have hm : (n : Int).tmod 6 = 0 ∨ (n : Int).tmod 6 = 1 ∨ (n : Int).tmod 6 = 2 ∨ (n : Int).tmod 6 = 3 ∨ (n : Int).tmod 6 = 4 ∨ (n : Int).tmod 6 = 5 := by omega
  clear ht
  rcases hm with hm | hm | hm | hm | hm | hm
  · go_region
    have hfin := hs3.out.fin1 (.slice (some ⟨b, 0, none⟩) l.length cap) (.cells #[.int .i64 0, .int .i64 1, .int .i64 3, .int .i64 20, .int .i64 21, .int .i64 (-1)] 3)
    have hcR := hfin.1
    go_wp2
    refine bodyPost_ret (v := .tuple #[.agg #[.slice (some ⟨b, 0, none⟩) l.length cap], .int .i64 x1, .int .i64 x2, .int .i64 0]) (by simp [results, Try.results23, go_sem, hcR]) rfl ?_
    exact ⟨b, cap, l, x1, x2, 0, rfl, hbb2, hl, hfin.2.1.drew, hx1, hx2, ⟨by omega, by omega⟩, hfin.2.2.drew⟩
  · go_region
    have hfin := hs3.out.fin1 (.slice (some ⟨b, 0, none⟩) l.length cap) (.cells #[.int .i64 0, .int .i64 1, .int .i64 3, .int .i64 20, .int .i64 21, .int .i64 (-1)] 3)
    have hcR := hfin.1
    go_wp2
    refine bodyPost_ret (v := .tuple #[.agg #[.slice (some ⟨b, 0, none⟩) l.length cap], .int .i64 x1, .int .i64 x2, .int .i64 1]) (by simp [results, Try.results23, go_sem, hcR]) rfl ?_
    exact ⟨b, cap, l, x1, x2, 1, rfl, hbb2, hl, hfin.2.1.drew, hx1, hx2, ⟨by omega, by omega⟩, hfin.2.2.drew⟩
  · go_region
    have hfin := hs3.out.fin1 (.slice (some ⟨b, 0, none⟩) l.length cap) (.cells #[.int .i64 0, .int .i64 1, .int .i64 3, .int .i64 20, .int .i64 21, .int .i64 (-1)] 3)
    have hcR := hfin.1
    go_wp2
    refine bodyPost_ret (v := .tuple #[.agg #[.slice (some ⟨b, 0, none⟩) l.length cap], .int .i64 x1, .int .i64 x2, .int .i64 3]) (by simp [results, Try.results23, go_sem, hcR]) rfl ?_
    exact ⟨b, cap, l, x1, x2, 3, rfl, hbb2, hl, hfin.2.1.drew, hx1, hx2, ⟨by omega, by omega⟩, hfin.2.2.drew⟩
  · go_region
    have hfin := hs3.out.fin1 (.slice (some ⟨b, 0, none⟩) l.length cap) (.cells #[.int .i64 0, .int .i64 1, .int .i64 3, .int .i64 20, .int .i64 21, .int .i64 (-1)] 3)
    have hcR := hfin.1
    go_wp2
    refine bodyPost_ret (v := .tuple #[.agg #[.slice (some ⟨b, 0, none⟩) l.length cap], .int .i64 x1, .int .i64 x2, .int .i64 20]) (by simp [results, Try.results23, go_sem, hcR]) rfl ?_
    exact ⟨b, cap, l, x1, x2, 20, rfl, hbb2, hl, hfin.2.1.drew, hx1, hx2, ⟨by omega, by omega⟩, hfin.2.2.drew⟩
  · go_region
    have hfin := hs3.out.fin1 (.slice (some ⟨b, 0, none⟩) l.length cap) (.cells #[.int .i64 0, .int .i64 1, .int .i64 3, .int .i64 20, .int .i64 21, .int .i64 (-1)] 3)
    have hcR := hfin.1
    go_wp2
    refine bodyPost_ret (v := .tuple #[.agg #[.slice (some ⟨b, 0, none⟩) l.length cap], .int .i64 x1, .int .i64 x2, .int .i64 21]) (by simp [results, Try.results23, go_sem, hcR]) rfl ?_
    exact ⟨b, cap, l, x1, x2, 21, rfl, hbb2, hl, hfin.2.1.drew, hx1, hx2, ⟨by omega, by omega⟩, hfin.2.2.drew⟩
  · go_region
    have hfin := hs3.out.fin1 (.slice (some ⟨b, 0, none⟩) l.length cap) (.cells #[.int .i64 0, .int .i64 1, .int .i64 3, .int .i64 20, .int .i64 21, .int .i64 (-1)] 3)
    have hcR := hfin.1
    go_wp2
    refine bodyPost_ret (v := .tuple #[.agg #[.slice (some ⟨b, 0, none⟩) l.length cap], .int .i64 x1, .int .i64 x2, .int .i64 (-1)]) (by simp [results, Try.results23, go_sem, hcR]) rfl ?_
    exact ⟨b, cap, l, x1, x2, (-1), rfl, hbb2, hl, hfin.2.1.drew, hx1, hx2, ⟨by omega, by omega⟩, hfin.2.2.drew⟩
set_option maxHeartbeats 1000000 in
theorem DrawGrowthOf_any (a : Option Addr) (n cp : Nat) (w : World) (hn : n ≤ 1099511627776) (hb : BytesV w a n) :
    Calls Try.prog 94 #[.slice a n cp] w (Drawn2 w) := by
  have hb0 := hb.below ((Below.refl _ _).alloc (Nat.le_refl _) (.cells #[.slice none 0 0] 26))
  go_enter Try.func94, Try.ntmps94
  go_wp2_with fail
  generalize h0 : w.alloc (.cells #[.slice none 0 0] 26) = w0 at *
  refine (l3One_any a n cp w0 hn hb0).mono ?_; rintro e w2 ⟨b, cap, l, x1, rfl, hbb, hl, hg, hx1, hb2⟩
  have hs := Wrp0.init 26 h0 hb2 hbb hg
  have hbb2 := Nat.le_of_lt hs.hb
  clear h0 hb0 hb hb2 hg hbb
  have hs2 := hs.box cap 26
  have hlR := hs.lR
  clear hs
  generalize hG : w2.heap.size = G at *
  go_wp2_with fail
  generalize w2.alloc (.cells #[.slice (some ⟨b, 0, none⟩) l.length cap] 26) = wr at *
  clear hG
  have hcG := hs2.cG
  obtain ⟨v0, hcR0⟩ := hs2.cR
  have hfR := hs2.fR
  have hlR2 := hs2.lR
  have hlG2 := hs2.lG
  have hs3 := hid hs2
  clear hs2
  have ht : ((n : Int).tmod 7) = (n : Int) % 7 := Int.tmod_eq_emod_of_nonneg (by omega)
  have hm : (n : Int).tmod 7 = 0 ∨ (n : Int).tmod 7 = 1 ∨ (n : Int).tmod 7 = 2 ∨ (n : Int).tmod 7 = 3 ∨ (n : Int).tmod 7 = 4 ∨ (n : Int).tmod 7 = 5 ∨ (n : Int).tmod 7 = 6 := by omega
  clear ht
  rcases hm with hm | hm | hm | hm | hm | hm | hm
  · go_region
    have hfin := hs3.out.fin1 (.slice (some ⟨b, 0, none⟩) l.length cap) (.cells #[.int .i64 0, .int .i64 1, .int .i64 3, .int .i64 6, .int .i64 30, .int .i64 31, .int .i64 (-1)] 3)
    have hcR := hfin.1
    go_wp2
    refine bodyPost_ret (v := .tuple #[.agg #[.slice (some ⟨b, 0, none⟩) l.length cap], .int .i64 x1, .int .i64 0]) (by simp [results, Try.results94, go_sem, hcR]) rfl ?_
    exact ⟨b, cap, l, x1, 0, rfl, hbb2, hl, hfin.2.1.drew, hx1, ⟨by omega, by omega⟩, hfin.2.2.drew⟩
  · go_region
    have hfin := hs3.out.fin1 (.slice (some ⟨b, 0, none⟩) l.length cap) (.cells #[.int .i64 0, .int .i64 1, .int .i64 3, .int .i64 6, .int .i64 30, .int .i64 31, .int .i64 (-1)] 3)
    have hcR := hfin.1
    go_wp2
    refine bodyPost_ret (v := .tuple #[.agg #[.slice (some ⟨b, 0, none⟩) l.length cap], .int .i64 x1, .int .i64 1]) (by simp [results, Try.results94, go_sem, hcR]) rfl ?_
    exact ⟨b, cap, l, x1, 1, rfl, hbb2, hl, hfin.2.1.drew, hx1, ⟨by omega, by omega⟩, hfin.2.2.drew⟩
  · go_region
    have hfin := hs3.out.fin1 (.slice (some ⟨b, 0, none⟩) l.length cap) (.cells #[.int .i64 0, .int .i64 1, .int .i64 3, .int .i64 6, .int .i64 30, .int .i64 31, .int .i64 (-1)] 3)
    have hcR := hfin.1
    go_wp2
    refine bodyPost_ret (v := .tuple #[.agg #[.slice (some ⟨b, 0, none⟩) l.length cap], .int .i64 x1, .int .i64 3]) (by simp [results, Try.results94, go_sem, hcR]) rfl ?_
    exact ⟨b, cap, l, x1, 3, rfl, hbb2, hl, hfin.2.1.drew, hx1, ⟨by omega, by omega⟩, hfin.2.2.drew⟩
  · go_region
    have hfin := hs3.out.fin1 (.slice (some ⟨b, 0, none⟩) l.length cap) (.cells #[.int .i64 0, .int .i64 1, .int .i64 3, .int .i64 6, .int .i64 30, .int .i64 31, .int .i64 (-1)] 3)
    have hcR := hfin.1
    go_wp2
    refine bodyPost_ret (v := .tuple #[.agg #[.slice (some ⟨b, 0, none⟩) l.length cap], .int .i64 x1, .int .i64 6]) (by simp [results, Try.results94, go_sem, hcR]) rfl ?_
    exact ⟨b, cap, l, x1, 6, rfl, hbb2, hl, hfin.2.1.drew, hx1, ⟨by omega, by omega⟩, hfin.2.2.drew⟩
  · go_region
    have hfin := hs3.out.fin1 (.slice (some ⟨b, 0, none⟩) l.length cap) (.cells #[.int .i64 0, .int .i64 1, .int .i64 3, .int .i64 6, .int .i64 30, .int .i64 31, .int .i64 (-1)] 3)
    have hcR := hfin.1
    go_wp2
    refine bodyPost_ret (v := .tuple #[.agg #[.slice (some ⟨b, 0, none⟩) l.length cap], .int .i64 x1, .int .i64 30]) (by simp [results, Try.results94, go_sem, hcR]) rfl ?_
    exact ⟨b, cap, l, x1, 30, rfl, hbb2, hl, hfin.2.1.drew, hx1, ⟨by omega, by omega⟩, hfin.2.2.drew⟩
  · go_region
    have hfin := hs3.out.fin1 (.slice (some ⟨b, 0, none⟩) l.length cap) (.cells #[.int .i64 0, .int .i64 1, .int .i64 3, .int .i64 6, .int .i64 30, .int .i64 31, .int .i64 (-1)] 3)
    have hcR := hfin.1
    go_wp2
    refine bodyPost_ret (v := .tuple #[.agg #[.slice (some ⟨b, 0, none⟩) l.length cap], .int .i64 x1, .int .i64 31]) (by simp [results, Try.results94, go_sem, hcR]) rfl ?_
    exact ⟨b, cap, l, x1, 31, rfl, hbb2, hl, hfin.2.1.drew, hx1, ⟨by omega, by omega⟩, hfin.2.2.drew⟩
  · go_region
    have hfin := hs3.out.fin1 (.slice (some ⟨b, 0, none⟩) l.length cap) (.cells #[.int .i64 0, .int .i64 1, .int .i64 3, .int .i64 6, .int .i64 30, .int .i64 31, .int .i64 (-1)] 3)
    have hcR := hfin.1
    go_wp2
    refine bodyPost_ret (v := .tuple #[.agg #[.slice (some ⟨b, 0, none⟩) l.length cap], .int .i64 x1, .int .i64 (-1)]) (by simp [results, Try.results94, go_sem, hcR]) rfl ?_
    exact ⟨b, cap, l, x1, (-1), rfl, hbb2, hl, hfin.2.1.drew, hx1, ⟨by omega, by omega⟩, hfin.2.2.drew⟩
set_option maxHeartbeats 1000000 in
theorem DrawProgressionSet_any (a : Option Addr) (n cp : Nat) (w : World) (hn : n ≤ 1099511627776) (hb : BytesV w a n) :
    Calls Try.prog 45 #[.slice a n cp] w (Drawn3 w) := by
  have hb0 := hb.below ((Below.refl _ _).alloc (Nat.le_refl _) (.cells #[.slice none 0 0] 26))
  go_enter Try.func45, Try.ntmps45
  go_wp2_with fail
  generalize h0 : w.alloc (.cells #[.slice none 0 0] 26) = w0 at *
  refine (l2Two_any a n cp w0 hn hb0).mono ?_; rintro e w2 ⟨b, cap, l, x1, x2, rfl, hbb, hl, hg, hx1, hx2, hb2⟩
  have hs := Wrp0.init 26 h0 hb2 hbb hg
  have hbb2 := Nat.le_of_lt hs.hb
  clear h0 hb0 hb hb2 hg hbb
  have hs2 := hs.box cap 26
  have hlR := hs.lR
  clear hs
  generalize hG : w2.heap.size = G at *
  go_wp2_with fail
  generalize w2.alloc (.cells #[.slice (some ⟨b, 0, none⟩) l.length cap] 26) = wr at *
  clear hG
  have hcG := hs2.cG
  obtain ⟨v0, hcR0⟩ := hs2.cR
  have hfR := hs2.fR
  have hlR2 := hs2.lR
  have hlG2 := hs2.lG
  have hs3 := hid hs2
  clear hs2
  have ht : ((n : Int).tmod 6) = (n : Int) % 6 := Int.tmod_eq_emod_of_nonneg (by omega)
  have hm : (n : Int).tmod 6 = 0 ∨ (n : Int).tmod 6 = 1 ∨ (n : Int).tmod 6 = 2 ∨ (n : Int).tmod 6 = 3 ∨ (n : Int).tmod 6 = 4 ∨ (n : Int).tmod 6 = 5 := by omega
  clear ht
  rcases hm with hm | hm | hm | hm | hm | hm
  · go_region
    have hfin := hs3.out.fin1 (.slice (some ⟨b, 0, none⟩) l.length cap) (.cells #[.int .i64 0, .int .i64 1, .int .i64 3, .int .i64 24, .int .i64 25, .int .i64 (-1)] 3)
    have hcR := hfin.1
    go_wp2
    refine bodyPost_ret (v := .tuple #[.agg #[.slice (some ⟨b, 0, none⟩) l.length cap], .int .i64 x1, .int .i64 x2, .int .i64 0]) (by simp [results, Try.results45, go_sem, hcR]) rfl ?_
    exact ⟨b, cap, l, x1, x2, 0, rfl, hbb2, hl, hfin.2.1.drew, hx1, hx2, ⟨by omega, by omega⟩, hfin.2.2.drew⟩
  · go_region
    have hfin := hs3.out.fin1 (.slice (some ⟨b, 0, none⟩) l.length cap) (.cells #[.int .i64 0, .int .i64 1, .int .i64 3, .int .i64 24, .int .i64 25, .int .i64 (-1)] 3)
    have hcR := hfin.1
    go_wp2
    refine bodyPost_ret (v := .tuple #[.agg #[.slice (some ⟨b, 0, none⟩) l.length cap], .int .i64 x1, .int .i64 x2, .int .i64 1]) (by simp [results, Try.results45, go_sem, hcR]) rfl ?_
    exact ⟨b, cap, l, x1, x2, 1, rfl, hbb2, hl, hfin.2.1.drew, hx1, hx2, ⟨by omega, by omega⟩, hfin.2.2.drew⟩
  · go_region
    have hfin := hs3.out.fin1 (.slice (some ⟨b, 0, none⟩) l.length cap) (.cells #[.int .i64 0, .int .i64 1, .int .i64 3, .int .i64 24, .int .i64 25, .int .i64 (-1)] 3)
    have hcR := hfin.1
    go_wp2
    refine bodyPost_ret (v := .tuple #[.agg #[.slice (some ⟨b, 0, none⟩) l.length cap], .int .i64 x1, .int .i64 x2, .int .i64 3]) (by simp [results, Try.results45, go_sem, hcR]) rfl ?_
    exact ⟨b, cap, l, x1, x2, 3, rfl, hbb2, hl, hfin.2.1.drew, hx1, hx2, ⟨by omega, by omega⟩, hfin.2.2.drew⟩
  · go_region
    have hfin := hs3.out.fin1 (.slice (some ⟨b, 0, none⟩) l.length cap) (.cells #[.int .i64 0, .int .i64 1, .int .i64 3, .int .i64 24, .int .i64 25, .int .i64 (-1)] 3)
    have hcR := hfin.1
    go_wp2
    refine bodyPost_ret (v := .tuple #[.agg #[.slice (some ⟨b, 0, none⟩) l.length cap], .int .i64 x1, .int .i64 x2, .int .i64 24]) (by simp [results, Try.results45, go_sem, hcR]) rfl ?_
    exact ⟨b, cap, l, x1, x2, 24, rfl, hbb2, hl, hfin.2.1.drew, hx1, hx2, ⟨by omega, by omega⟩, hfin.2.2.drew⟩
  · go_region
    have hfin := hs3.out.fin1 (.slice (some ⟨b, 0, none⟩) l.length cap) (.cells #[.int .i64 0, .int .i64 1, .int .i64 3, .int .i64 24, .int .i64 25, .int .i64 (-1)] 3)
    have hcR := hfin.1
    go_wp2
    refine bodyPost_ret (v := .tuple #[.agg #[.slice (some ⟨b, 0, none⟩) l.length cap], .int .i64 x1, .int .i64 x2, .int .i64 25]) (by simp [results, Try.results45, go_sem, hcR]) rfl ?_
    exact ⟨b, cap, l, x1, x2, 25, rfl, hbb2, hl, hfin.2.1.drew, hx1, hx2, ⟨by omega, by omega⟩, hfin.2.2.drew⟩
  · go_region
    have hfin := hs3.out.fin1 (.slice (some ⟨b, 0, none⟩) l.length cap) (.cells #[.int .i64 0, .int .i64 1, .int .i64 3, .int .i64 24, .int .i64 25, .int .i64 (-1)] 3)
    have hcR := hfin.1
    go_wp2
    refine bodyPost_ret (v := .tuple #[.agg #[.slice (some ⟨b, 0, none⟩) l.length cap], .int .i64 x1, .int .i64 x2, .int .i64 (-1)]) (by simp [results, Try.results45, go_sem, hcR]) rfl ?_
    exact ⟨b, cap, l, x1, x2, (-1), rfl, hbb2, hl, hfin.2.1.drew, hx1, hx2, ⟨by omega, by omega⟩, hfin.2.2.drew⟩
theorem lrF_I64 (l : List Int) (a b : Int) : I64 (lrF l a b) := by
  by_cases h : lrOk l a b = true
  · obtain ⟨m, A, B, hm, rfl, rfl, rfl, hA, hB, hA0, hB0⟩ := full_iff.1 (lrOk_yes h).1
    rw [lrF_yes h]
    have h1 := part_le (leastN_spec (m := m) (B := B) (Nat.lt_of_lt_of_le hA hm.pow_le) hA0).1
    have h2 := Nat.lt_of_lt_of_le hA hm.pow_le
    exact I64_nat (by omega)
  · rw [lrF_no (by simpa using h)]; exact ⟨by omega, by omega⟩
theorem covA_I64 (l : List Int) (a b : Int) : I64 (covA l a b) := by
  by_cases h : covOk l a b = true
  · obtain ⟨m, A, B, hm, rfl, rfl, rfl, hA, hB⟩ := two_iff.1 (covOk_yes h).1
    rw [covA_yes h]
    exact I64_nat (Nat.le_of_lt (packN_lt hm A B))
  · rw [covA_no (by simpa using h)]; exact ⟨by omega, by omega⟩
set_option maxHeartbeats 1000000 in
theorem DrawPetridisGap_any (a : Option Addr) (n cp : Nat) (w : World) (hn : n ≤ 1099511627776) (hb : BytesV w a n) :
    Calls Try.prog 22 #[.slice a n cp] w (Drawn3 w) := by
  have hb0 := hb.below ((Below.refl _ _).alloc (Nat.le_refl _) (.cells #[.slice none 0 0] 26))
  go_enter Try.func22, Try.ntmps22
  go_wp2_with fail
  generalize h0 : w.alloc (.cells #[.slice none 0 0] 26) = w0 at *
  refine (l12Three_any a n cp w0 hn hb0).mono ?_; rintro e w2 ⟨b, cap, l, x1, x2, x3, rfl, hbb, hl, hg, hx1, hx2, hx3, hb2⟩
  have hs := Wrp0.init 26 h0 hb2 hbb hg
  have hbb2 := Nat.le_of_lt hs.hb
  clear h0 hb0 hb hb2 hg hbb
  have hs2 := hs.box cap 26
  have hlR := hs.lR
  clear hs
  generalize hG : w2.heap.size = G at *
  go_wp2_with fail
  generalize w2.alloc (.cells #[.slice (some ⟨b, 0, none⟩) l.length cap] 26) = wr at *
  clear hG
  refine (sLeastRatio_any b 0 cap l x1 x2 wr (by omega) hs2.hg).mono ?_; rintro e w5 ⟨rfl, hb5⟩
  have hs5 := hs2.step hb5
  have hx4 := lrF_I64 l x1 x2
  generalize lrF l x1 x2 = x4 at *
  clear hs2 hb5
  have hcG := hs5.cG
  obtain ⟨v0, hcR0⟩ := hs5.cR
  have hfR := hs5.fR
  have hlR2 := hs5.lR
  have hlG2 := hs5.lG
  have hfin := hs5.fin (.slice (some ⟨b, 0, none⟩) l.length cap)
  have hcR := hfin.1
  cases lrOk l x1 x2
  · go_wp2_with fail
    refine bodyPost_ret (v := .tuple #[.agg #[.slice (some ⟨b, 0, none⟩) l.length cap], .int .i64 x1, .int .i64 x2, .int .i64 x3]) (by simp [results, Try.results22, go_sem, hcR]) rfl ?_
    exact ⟨b, cap, l, x1, x2, x3, rfl, hbb2, hl, hfin.2.1, hx1, hx2, hx3, hfin.2.2⟩
  · go_wp2_with fail
    refine bodyPost_ret (v := .tuple #[.agg #[.slice (some ⟨b, 0, none⟩) l.length cap], .int .i64 x4, .int .i64 x2, .int .i64 x3]) (by simp [results, Try.results22, go_sem, hcR]) rfl ?_
    exact ⟨b, cap, l, x4, x2, x3, rfl, hbb2, hl, hfin.2.1, hx4, hx2, hx3, hfin.2.2⟩
set_option maxHeartbeats 1000000 in
theorem DrawIsLeastRatio_any (a : Option Addr) (n cp : Nat) (w : World) (hn : n ≤ 1099511627776) (hb : BytesV w a n) :
    Calls Try.prog 21 #[.slice a n cp] w (Drawn3 w) := by
  have hb0 := hb.below ((Below.refl _ _).alloc (Nat.le_refl _) (.cells #[.slice none 0 0] 26))
  go_enter Try.func21, Try.ntmps21
  go_wp2_with fail
  generalize h0 : w.alloc (.cells #[.slice none 0 0] 26) = w0 at *
  refine (l12Three_any a n cp w0 hn hb0).mono ?_; rintro e w2 ⟨b, cap, l, x1, x2, x3, rfl, hbb, hl, hg, hx1, hx2, hx3, hb2⟩
  have hs := Wrp0.init 26 h0 hb2 hbb hg
  have hbb2 := Nat.le_of_lt hs.hb
  clear h0 hb0 hb hb2 hg hbb
  have hs2 := hs.box cap 26
  have hlR := hs.lR
  clear hs
  generalize hG : w2.heap.size = G at *
  go_wp2_with fail
  generalize w2.alloc (.cells #[.slice (some ⟨b, 0, none⟩) l.length cap] 26) = wr at *
  clear hG
  refine (sLeastRatio_any b 0 cap l x1 x2 wr (by omega) hs2.hg).mono ?_; rintro e w5 ⟨rfl, hb5⟩
  have hs5 := hs2.step hb5
  have hx4 := lrF_I64 l x1 x2
  generalize lrF l x1 x2 = x4 at *
  clear hs2 hb5
  have hcG := hs5.cG
  obtain ⟨v0, hcR0⟩ := hs5.cR
  have hfR := hs5.fR
  have hlR2 := hs5.lR
  have hlG2 := hs5.lG
  have hfin := hs5.fin (.slice (some ⟨b, 0, none⟩) l.length cap)
  have hcR := hfin.1
  cases lrOk l x1 x2
  · go_wp2_with fail
    refine bodyPost_ret (v := .tuple #[.agg #[.slice (some ⟨b, 0, none⟩) l.length cap], .int .i64 x1, .int .i64 x2, .int .i64 x3]) (by simp [results, Try.results21, go_sem, hcR]) rfl ?_
    exact ⟨b, cap, l, x1, x2, x3, rfl, hbb2, hl, hfin.2.1, hx1, hx2, hx3, hfin.2.2⟩
  · by_cases hm : (0 : Int) < (n : Int) % 3
    · go_wp2_with fail
      refine bodyPost_ret (v := .tuple #[.agg #[.slice (some ⟨b, 0, none⟩) l.length cap], .int .i64 x1, .int .i64 x2, .int .i64 x4]) (by simp [results, Try.results21, go_sem, hcR]) rfl ?_
      exact ⟨b, cap, l, x1, x2, x4, rfl, hbb2, hl, hfin.2.1, hx1, hx2, hx4, hfin.2.2⟩
    · have hm2 : ¬ (0 : Int) < (n : Int) % 3 := hm
      go_wp2_with fail
      refine bodyPost_ret (v := .tuple #[.agg #[.slice (some ⟨b, 0, none⟩) l.length cap], .int .i64 x1, .int .i64 x2, .int .i64 x3]) (by simp [results, Try.results21, go_sem, hcR]) rfl ?_
      exact ⟨b, cap, l, x1, x2, x3, rfl, hbb2, hl, hfin.2.1, hx1, hx2, hx3, hfin.2.2⟩
set_option maxHeartbeats 1000000 in
theorem DrawIsRuzsaCover_any (a : Option Addr) (n cp : Nat) (w : World) (hn : n ≤ 1099511627776) (hb : BytesV w a n) :
    Calls Try.prog 73 #[.slice a n cp] w (Drawn3 w) := by
  have hb0 := hb.below ((Below.refl _ _).alloc (Nat.le_refl _) (.cells #[.slice none 0 0] 26))
  go_enter Try.func73, Try.ntmps73
  go_wp2_with fail
  generalize h0 : w.alloc (.cells #[.slice none 0 0] 26) = w0 at *
  refine (l12Three_any a n cp w0 hn hb0).mono ?_; rintro e w2 ⟨b, cap, l, x1, x2, x3, rfl, hbb, hl, hg, hx1, hx2, hx3, hb2⟩
  have hs := Wrp0.init 26 h0 hb2 hbb hg
  have hbb2 := Nat.le_of_lt hs.hb
  clear h0 hb0 hb hb2 hg hbb
  have hs2 := hs.box cap 26
  have hlR := hs.lR
  clear hs
  generalize hG : w2.heap.size = G at *
  go_wp2_with fail
  generalize w2.alloc (.cells #[.slice (some ⟨b, 0, none⟩) l.length cap] 26) = wr at *
  clear hG
  refine (sRuzsaCover_any b 0 cap l x1 x2 wr (by omega) hs2.hg).mono ?_; rintro e w5 ⟨rfl, hb5⟩
  have hs5 := hs2.step hb5
  have hx4 := covA_I64 l x1 x2
  generalize covA l x1 x2 = x4 at *
  clear hs2 hb5
  have hcG := hs5.cG
  obtain ⟨v0, hcR0⟩ := hs5.cR
  have hfR := hs5.fR
  have hlR2 := hs5.lR
  have hlG2 := hs5.lG
  have hfin := hs5.fin (.slice (some ⟨b, 0, none⟩) l.length cap)
  have hcR := hfin.1
  cases covOk l x1 x2
  · go_wp2_with fail
    refine bodyPost_ret (v := .tuple #[.agg #[.slice (some ⟨b, 0, none⟩) l.length cap], .int .i64 x1, .int .i64 x2, .int .i64 x3]) (by simp [results, Try.results73, go_sem, hcR]) rfl ?_
    exact ⟨b, cap, l, x1, x2, x3, rfl, hbb2, hl, hfin.2.1, hx1, hx2, hx3, hfin.2.2⟩
  · by_cases hm : (0 : Int) < (n : Int) % 3
    · go_wp2_with fail
      refine bodyPost_ret (v := .tuple #[.agg #[.slice (some ⟨b, 0, none⟩) l.length cap], .int .i64 x1, .int .i64 x2, .int .i64 x4]) (by simp [results, Try.results73, go_sem, hcR]) rfl ?_
      exact ⟨b, cap, l, x1, x2, x4, rfl, hbb2, hl, hfin.2.1, hx1, hx2, hx4, hfin.2.2⟩
    · have hm2 : ¬ (0 : Int) < (n : Int) % 3 := hm
      go_wp2_with fail
      refine bodyPost_ret (v := .tuple #[.agg #[.slice (some ⟨b, 0, none⟩) l.length cap], .int .i64 x1, .int .i64 x2, .int .i64 x3]) (by simp [results, Try.results73, go_sem, hcR]) rfl ?_
      exact ⟨b, cap, l, x1, x2, x3, rfl, hbb2, hl, hfin.2.1, hx1, hx2, hx3, hfin.2.2⟩
end Go.Proofs.Ytpflnmcecnbilaa
