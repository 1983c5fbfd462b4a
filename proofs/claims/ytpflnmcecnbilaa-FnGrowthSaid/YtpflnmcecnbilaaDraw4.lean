/-
  Contracts of the reference's drawing: a group with sets or elements.
-/
import Derived.Test.YtpflnmcecnbilaaDraw3
namespace Go.Proofs.Ytpflnmcecnbilaa
open Go.RowKit

/-- the cursor's code lies in blocks that came in -/
def CodeIn (B : Nat) (wr : World) (C : Nat) : Prop := ∃ a n cp, wr.cell? ⟨C, 0, none⟩ = some (.slice a n cp) ∧ ∀ b off, a = some ⟨b, off, none⟩ → n = 0 ∨ b < B
/-- a store into a block between the code and the cursor -/
theorem Cur.store {B C k : Nat} {wr : World} (h : Cur wr C) (hc : CodeIn B wr C) (hB : B ≤ k) (hk : k ≠ C) (v : Value) : Cur (wr.setCell ⟨k, 0, none⟩ v) C := by
  obtain ⟨a, n, cp, i, hh, hC, c0, c1, c2, f1, f2, hi, hn, hbv, hne⟩ := h
  have e : ∀ j, (wr.setCell ⟨k, 0, none⟩ v).cell? ⟨C, j, none⟩ = wr.cell? ⟨C, j, none⟩ := fun j => World.cell?_of_block (Below.heap_setCell _ _ _ _ (fun e => hk e.symm))
  obtain ⟨a', n', cp', c0', hlt⟩ := hc
  rw [c0] at c0'
  simp only [Option.some.injEq, Value.slice.injEq] at c0'
  obtain ⟨rfl, rfl, rfl⟩ := c0'
  refine ⟨a, n, cp, i, hh, by simpa using hC, (e 0).trans c0, (e 1).trans c1, (e 2).trans c2, by simpa using f1, by simpa using f2, hi, hn, ?_, hne⟩
  rcases hbv with h0 | ⟨b, off, ha, hl, hcell⟩
  · exact .inl h0
  · rcases hlt b off ha with h0 | h0
    · exact .inl h0
    · refine .inr ⟨b, off, ha, by simpa using hl, fun j hj => ?_⟩
      obtain ⟨z, hz, e⟩ := hcell j hj
      exact ⟨z, hz, by rw [← e]; exact World.cell?_of_block (Below.heap_setCell _ _ _ _ (by show b ≠ k; omega))⟩

/-- what block k's first cell holds -/
def atR (w : World) (k : Nat) : Value := (w.cell? ⟨k, 0, none⟩).getD undef
/-- inside a function that draws: the result's cell, the cursor C, the box G of the group drawn -/
structure Scn (w : World) (C G b cap : Nat) (l : List Int) (wr : World) : Prop where
  below : Below w.heap.size w wr
  cur : Cur wr C
  code : CodeIn w.heap.size wr C
  hC : w.heap.size < C
  cR : ∃ v, wr.cell? ⟨w.heap.size, 0, none⟩ = some v
  fR : wr.frozen? ⟨w.heap.size, 0, none⟩ = false
  lR : w.heap.size < wr.heap.size
  hG : C < G
  lG : G < wr.heap.size
  cG : wr.cell? ⟨G, 0, none⟩ = some (.slice (some ⟨b, 0, none⟩) l.length cap)
  hb : C < b
  ne : b ≠ G
  hl : l.length ≤ 4
  hg : GrpAt wr b 0 l
section
variable {w wr w1 : World} {C G b cap : Nat} {l : List Int}
theorem Scn.drew (h : Scn w C G b cap l wr) (hd : Drew wr C w1) : Scn w C G b cap l w1 := by
  have h1 := h.hC; have h2 := h.hG; have h3 := h.hb
  refine ⟨hd.below h.below (by omega), hd.cur, ?_, h.hC, ?_, ?_, Nat.lt_of_lt_of_le h.lR hd.gr.size, h.hG, Nat.lt_of_lt_of_le h.lG hd.gr.size, ?_, h.hb, h.ne, h.hl, hd.grp h.hg (by omega)⟩
  · obtain ⟨a, n, cp, e, hlt⟩ := h.code; exact ⟨a, n, cp, hd.c0.trans e, hlt⟩
  · obtain ⟨v, hv⟩ := h.cR; exact ⟨v, (hd.at (b := w.heap.size) (j := 0) h.lR (by omega)).trans hv⟩
  · exact (hd.fz (b := w.heap.size) (j := 0) h.lR (by omega)).trans h.fR
  · exact (hd.at (b := G) (j := 0) h.lG (by omega)).trans h.cG
theorem Scn.step (h : Scn w C G b cap l wr) (hb : Below wr.heap.size wr w1) : Scn w C G b cap l w1 := h.drew ((Drew.refl h.cur).step hb)
theorem Scn.drw (h : Scn w C G b cap l wr) : Scn w C G b cap l wr.drew := h.step (Below.refl _ _).drew
theorem Scn.setR (h : Scn w C G b cap l wr) (v : Value) : Scn w C G b cap l (wr.setCell ⟨w.heap.size, 0, none⟩ v) := by
  have h1 := h.hC; have h2 := h.hG; have h3 := h.hb
  have e : ∀ k j, k ≠ w.heap.size → (wr.setCell ⟨w.heap.size, 0, none⟩ v).cell? ⟨k, j, none⟩ = wr.cell? ⟨k, j, none⟩ := fun k j hk => World.cell?_of_block (Below.heap_setCell _ _ _ _ hk)
  refine ⟨h.below.setCell (Nat.le_refl _) v, h.cur.store h.code (Nat.le_refl _) (by omega) v, ?_, h.hC, ?_, by simpa using h.fR, by simpa using h.lR, h.hG, by simpa using h.lG, ?_, h.hb, h.ne, h.hl, h.hg.setCell (by omega) v⟩
  · obtain ⟨a, n, cp, e', hlt⟩ := h.code; exact ⟨a, n, cp, (e C 0 (by omega)).trans e', hlt⟩
  · obtain ⟨u, hu⟩ := h.cR; exact ⟨v, setC_eq hu⟩
  · exact (e G 0 (by omega)).trans h.cG
/-- the fact that a region holds on to -/
theorem Scn.hold (h : Scn w C G b cap l wr) : wr.cell? ⟨G, 0, none⟩ = some (.slice (some ⟨b, 0, none⟩) l.length cap) ∧ wr.cell? ⟨w.heap.size, 0, none⟩ = some (atR wr w.heap.size) ∧ wr.frozen? ⟨w.heap.size, 0, none⟩ = false ∧ Scn w C G b cap l wr :=
  ⟨h.cG, by obtain ⟨v, hv⟩ := h.cR; unfold atR; rw [hv]; rfl, h.fR, h⟩
theorem Scn.fin (h : Scn w C G b cap l wr) (v : Value) : (wr.setCell ⟨w.heap.size, 0, none⟩ v).cell? ⟨w.heap.size, 0, none⟩ = some v ∧ GrpAt (wr.setCell ⟨w.heap.size, 0, none⟩ v) b 0 l ∧ Below w.heap.size w (wr.setCell ⟨w.heap.size, 0, none⟩ v) := by
  obtain ⟨u, hu⟩ := h.cR
  exact ⟨setC_eq hu, (h.setR v).hg, (h.setR v).below⟩
theorem Scn.of {X Y Z : Prop} (h : X ∧ Y ∧ Z ∧ Scn w C G b cap l wr) : Scn w C G b cap l wr := h.2.2.2
/-- the beginning: the result's cell, the cursor, the group drawn and boxed -/
theorem Scn.init {w0 w2 w3 : World} {a : Option Addr} {n cp : Nat} (hb : BytesV w a n) (t : TypeId) (h0 : w.alloc (.cells #[.slice none 0 0] t) = w0) (hC : w0.heap.size ≤ C) (hb2 : Below w0.heap.size w0 w2) (hc : Cur w2 C)
    (hcd : w2.cell? ⟨C, 0, none⟩ = some (.slice a n cp)) (hd : Drew w2 C w3) (hbb : w2.heap.size ≤ b) (hl : l.length ≤ 4) (hg : GrpAt w3 b 0 l) : Scn w C w3.heap.size b cap l (w3.alloc (.cells #[.slice (some ⟨b, 0, none⟩) l.length cap] t)) := by
  have hs0 : w0.heap.size = w.heap.size + 1 := by rw [← h0]; simp
  have hlt := hc.lt
  have hs2 := hb2.size
  have hs3 := hd.gr.size
  have hbw : Below w.heap.size w w0 := by rw [← h0]; exact (Below.refl _ _).alloc (Nat.le_refl _) _
  have c0 : w0.cell? ⟨w.heap.size, 0, none⟩ = some (.slice none 0 0) := by rw [← h0]; exact box_new _ _ _
  have f0 : w0.frozen? ⟨w.heap.size, 0, none⟩ = false := by rw [← h0, World.frozen?_alloc_at _ _ _ _ rfl]
  have c3 := ((hd.at (b := w.heap.size) (j := 0) (by omega) (by omega)).trans (hb2.cell (p := ⟨w.heap.size, 0, none⟩) (by show w.heap.size < _; omega))).trans c0
  have f3 := ((hd.fz (b := w.heap.size) (j := 0) (by omega) (by omega)).trans (hb2.frozen (p := ⟨w.heap.size, 0, none⟩) (by show w.heap.size < _; omega))).trans f0
  have hblt := hg.blt
  have hb4 := (Below.refl w3.heap.size w3).alloc (Nat.le_refl _) (.cells #[.slice (some ⟨b, 0, none⟩) l.length cap] t)
  have hCl := hd.cur.lt
  refine ⟨(hd.below (hbw.trans (hb2.mono hbw.size)) (by omega)).trans (hb4.mono (by omega)), hd.cur.alloc _, ⟨a, n, cp, (cell_alloc (hd.c0.trans hcd) hCl _), fun b' off e => ?_⟩, by omega, ⟨_, cell_alloc c3 (by omega) _⟩, by rw [frozen?_alloc_cells]; exact f3, by simp; omega, hd.cur.lt, by simp, box_new _ _ _, by omega, by omega, hl, hg.alloc _⟩
  rcases hb with h | ⟨b2, off2, e2, hl2, _⟩
  · exact .inl h
  · rw [e2] at e; simp at e; exact .inr (by omega)
end
/-- what a function that draws hands back: a group in new memory and numbers -/
def Drawn1 (w : World) (e : Ending) (w' : World) : Prop := ∃ b cap l x, e = .returned (.tuple #[.agg #[.slice (some ⟨b, 0, none⟩) (l : List Int).length cap], .int .i64 x]) ∧ w.heap.size ≤ b ∧ l.length ≤ 4 ∧ GrpAt w' b 0 l ∧ I64 x ∧ Below w.heap.size w w'
set_option maxHeartbeats 1000000 in
theorem l3One_any (a : Option Addr) (n cp : Nat) (w : World) (hn : n ≤ 1099511627776) (hb : BytesV w a n) :
    Calls Try.prog 143 #[.slice a n cp] w (Drawn1 w) := by
  have hb0 := hb.below ((Below.refl _ _).alloc (Nat.le_refl _) (.cells #[.slice none 0 0] 26))
  go_enter Try.func143, Try.ntmps143
  go_wp2_with fail
  generalize h0 : w.alloc (.cells #[.slice none 0 0] 26) = w0 at *
  refine (l1New_any a n cp w0 hn hb0).mono ?_; rintro e w2 ⟨C, rfl, hC, hb2, hc, hcd⟩
  go_wp2_with fail
  refine (l2Any_any C w2 hc).mono ?_; rintro e w3 ⟨b, cap, l, rfl, hbb, hl, hg, hd⟩
  have hs := Scn.init hb 26 h0 hC hb2 hc hcd hd hbb hl (cap := cap) hg
  clear h0 hb0 hb hC hb2 hc hcd hd hbb hg
  generalize hG : w3.heap.size = G at *
  go_wp2_with fail
  generalize w3.alloc (.cells #[.slice (some ⟨b, 0, none⟩) l.length cap] 26) = wr at *
  clear hG
  have hs1 := hs.drw.hold
  clear hs
  go_region_held3 (fun w' => w'.cell? ⟨G, 0, none⟩ = some (.slice (some ⟨b, 0, none⟩) l.length cap) ∧ w'.cell? ⟨w.heap.size, 0, none⟩ = some (atR w' w.heap.size) ∧ w'.frozen? ⟨w.heap.size, 0, none⟩ = false ∧ Scn w C G b cap l w') (first | exact hs1 | exact (Scn.drew (Scn.of (by assumption)) hd5).hold | exact (Scn.setR (Scn.of (by assumption)) _).hold | assumption)
    (first | (go_at_call 161; refine (l3Set_any C b 0 cap l _ (Scn.cur (Scn.of (by assumption))) (by omega) (Scn.hg (Scn.of (by assumption)))).mono ?_; rintro e w5 ⟨x, rfl, hx, hd5⟩))
  have hfin := (Scn.drew (Scn.of hs1) hd5).fin (.slice (some ⟨b, 0, none⟩) l.length cap)
  have hcR := hfin.1
  have hbw := (Scn.of hs1).below.size
  have hCb := (Scn.of hs1).hC
  have hbC := (Scn.of hs1).hb
  go_wp2
  refine bodyPost_ret (v := .tuple #[.agg #[.slice (some ⟨b, 0, none⟩) l.length cap], .int .i64 x]) (by simp [results, Try.results143, go_sem, hcR]) rfl ?_
  exact ⟨b, cap, l, x, rfl, by omega, hl, hfin.2.1, hx, hfin.2.2⟩
-- BY DRAW4
def Drawn0 (w : World) (e : Ending) (w' : World) : Prop := ∃ b cap l, e = .returned (.agg #[.slice (some ⟨b, 0, none⟩) (l : List Int).length cap]) ∧ w.heap.size ≤ b ∧ l.length ≤ 4 ∧ GrpAt w' b 0 l ∧ Below w.heap.size w w'
def Drawn2 (w : World) (e : Ending) (w' : World) : Prop := ∃ b cap l x1 x2, e = .returned (.tuple #[.agg #[.slice (some ⟨b, 0, none⟩) (l : List Int).length cap], .int .i64 x1, .int .i64 x2]) ∧ w.heap.size ≤ b ∧ l.length ≤ 4 ∧ GrpAt w' b 0 l ∧ I64 x1 ∧ I64 x2 ∧ Below w.heap.size w w'
def Drawn3 (w : World) (e : Ending) (w' : World) : Prop := ∃ b cap l x1 x2 x3, e = .returned (.tuple #[.agg #[.slice (some ⟨b, 0, none⟩) (l : List Int).length cap], .int .i64 x1, .int .i64 x2, .int .i64 x3]) ∧ w.heap.size ≤ b ∧ l.length ≤ 4 ∧ GrpAt w' b 0 l ∧ I64 x1 ∧ I64 x2 ∧ I64 x3 ∧ Below w.heap.size w w'
set_option maxHeartbeats 1000000 in
theorem l3Two_any (a : Option Addr) (n cp : Nat) (w : World) (hn : n ≤ 1099511627776) (hb : BytesV w a n) :
    Calls Try.prog 112 #[.slice a n cp] w (Drawn2 w) := by
  have hb0 := hb.below ((Below.refl _ _).alloc (Nat.le_refl _) (.cells #[.slice none 0 0] 26))
  go_enter Try.func112, Try.ntmps112
  go_wp2_with fail
  generalize h0 : w.alloc (.cells #[.slice none 0 0] 26) = w0 at *
  refine (l1New_any a n cp w0 hn hb0).mono ?_; rintro e w2 ⟨C, rfl, hC, hb2, hc, hcd⟩
  go_wp2_with fail
  refine (l2Any_any C w2 hc).mono ?_; rintro e w3 ⟨b, cap, l, rfl, hbb, hl, hg, hd⟩
  have hs := Scn.init hb 26 h0 hC hb2 hc hcd hd hbb hl (cap := cap) hg
  clear h0 hb0 hC hb2 hc hcd hd hbb hg
  generalize hG : w3.heap.size = G at *
  have hcG := hs.cG
  go_wp2_with fail
  generalize w3.alloc (.cells #[.slice (some ⟨b, 0, none⟩) l.length cap] 26) = wr at *
  clear hG
  refine (l3Set_any C b 0 cap l wr hs.cur (by omega) hs.hg).mono ?_; rintro e u1 ⟨x1, rfl, hx1, hd11⟩
  have hs11 := hs.drew hd11
  have hcG11 := hs11.cG
  clear hs hcG hd11
  go_wp2_with fail
  have hs1 := hs11.drw.hold
  clear hs11
  go_region_held3 (fun w' => w'.cell? ⟨G, 0, none⟩ = some (.slice (some ⟨b, 0, none⟩) l.length cap) ∧ w'.cell? ⟨w.heap.size, 0, none⟩ = some (atR w' w.heap.size) ∧ w'.frozen? ⟨w.heap.size, 0, none⟩ = false ∧ Scn w C G b cap l w') (first | exact hs1 | exact (Scn.drew (Scn.of (by assumption)) hd5).hold | exact (Scn.setR (Scn.of (by assumption)) _).hold | assumption)
    (first | (go_at_call 161; refine (l3Set_any C b 0 cap l _ (Scn.cur (Scn.of (by assumption))) (by omega) (Scn.hg (Scn.of (by assumption)))).mono ?_; rintro e w5 ⟨x2, rfl, hx2, hd5⟩))
  have hfin := (Scn.drew (Scn.of hs1) hd5).fin (.slice (some ⟨b, 0, none⟩) l.length cap)
  have hcR := hfin.1
  have hbw := (Scn.of hs1).below.size
  have hCb := (Scn.of hs1).hC
  have hbC := (Scn.of hs1).hb
  go_wp2
  refine bodyPost_ret (v := .tuple #[.agg #[.slice (some ⟨b, 0, none⟩) l.length cap], .int .i64 x1, .int .i64 x2]) (by simp [results, Try.results112, go_sem, hcR]) rfl ?_
  exact ⟨b, cap, l, x1, x2, rfl, by omega, hl, hfin.2.1, hx1, hx2, hfin.2.2⟩
set_option maxHeartbeats 1000000 in
theorem l2Two_any (a : Option Addr) (n cp : Nat) (w : World) (hn : n ≤ 1099511627776) (hb : BytesV w a n) :
    Calls Try.prog 142 #[.slice a n cp] w (Drawn2 w) := by
  have hb0 := hb.below ((Below.refl _ _).alloc (Nat.le_refl _) (.cells #[.slice none 0 0] 26))
  go_enter Try.func142, Try.ntmps142
  go_wp2_with fail
  generalize h0 : w.alloc (.cells #[.slice none 0 0] 26) = w0 at *
  refine (l1New_any a n cp w0 hn hb0).mono ?_; rintro e w2 ⟨C, rfl, hC, hb2, hc, hcd⟩
  go_wp2_with fail
  refine (l2Any_any C w2 hc).mono ?_; rintro e w3 ⟨b, cap, l, rfl, hbb, hl, hg, hd⟩
  have hs := Scn.init hb 26 h0 hC hb2 hc hcd hd hbb hl (cap := cap) hg
  clear h0 hb0 hC hb2 hc hcd hd hbb hg
  generalize hG : w3.heap.size = G at *
  have hcG := hs.cG
  go_wp2_with fail
  generalize w3.alloc (.cells #[.slice (some ⟨b, 0, none⟩) l.length cap] 26) = wr at *
  clear hG
  refine (l2Element_any C b 0 cap l wr hs.cur (by omega) hs.hg (Nat.ne_of_gt hs.hb)).mono ?_; rintro e u1 ⟨x1, rfl, hx1, hd11⟩
  have hs11 := hs.drew hd11
  have hcG11 := hs11.cG
  clear hs hcG hd11
  go_wp2_with fail
  have hs1 := hs11.drw.hold
  clear hs11
  go_region_held3 (fun w' => w'.cell? ⟨G, 0, none⟩ = some (.slice (some ⟨b, 0, none⟩) l.length cap) ∧ w'.cell? ⟨w.heap.size, 0, none⟩ = some (atR w' w.heap.size) ∧ w'.frozen? ⟨w.heap.size, 0, none⟩ = false ∧ Scn w C G b cap l w') (first | exact hs1 | exact (Scn.drew (Scn.of (by assumption)) hd5).hold | exact (Scn.setR (Scn.of (by assumption)) _).hold | assumption)
    (first | (go_at_call 179; refine (l2Element_any C b 0 cap l _ (Scn.cur (Scn.of (by assumption))) (by omega) (Scn.hg (Scn.of (by assumption))) (Nat.ne_of_gt (Scn.hb (Scn.of (by assumption))))).mono ?_; rintro e w5 ⟨x2, rfl, hx2, hd5⟩))
  have hfin := (Scn.drew (Scn.of hs1) hd5).fin (.slice (some ⟨b, 0, none⟩) l.length cap)
  have hcR := hfin.1
  have hbw := (Scn.of hs1).below.size
  have hCb := (Scn.of hs1).hC
  have hbC := (Scn.of hs1).hb
  go_wp2
  refine bodyPost_ret (v := .tuple #[.agg #[.slice (some ⟨b, 0, none⟩) l.length cap], .int .i64 x1, .int .i64 x2]) (by simp [results, Try.results142, go_sem, hcR]) rfl ?_
  exact ⟨b, cap, l, x1, x2, rfl, by omega, hl, hfin.2.1, hx1, hx2, hfin.2.2⟩
set_option maxHeartbeats 1000000 in
theorem l12Three_any (a : Option Addr) (n cp : Nat) (w : World) (hn : n ≤ 1099511627776) (hb : BytesV w a n) :
    Calls Try.prog 123 #[.slice a n cp] w (Drawn3 w) := by
  have hb0 := hb.below ((Below.refl _ _).alloc (Nat.le_refl _) (.cells #[.slice none 0 0] 26))
  go_enter Try.func123, Try.ntmps123
  go_wp2_with fail
  generalize h0 : w.alloc (.cells #[.slice none 0 0] 26) = w0 at *
  refine (l1New_any a n cp w0 hn hb0).mono ?_; rintro e w2 ⟨C, rfl, hC, hb2, hc, hcd⟩
  go_wp2_with fail
  refine (l2Any_any C w2 hc).mono ?_; rintro e w3 ⟨b, cap, l, rfl, hbb, hl, hg, hd⟩
  have hs := Scn.init hb 26 h0 hC hb2 hc hcd hd hbb hl (cap := cap) hg
  clear h0 hb0 hC hb2 hc hcd hd hbb hg
  generalize hG : w3.heap.size = G at *
  have hcG := hs.cG
  go_wp2_with fail
  generalize w3.alloc (.cells #[.slice (some ⟨b, 0, none⟩) l.length cap] 26) = wr at *
  clear hG
  refine (l3Set_any C b 0 cap l wr hs.cur (by omega) hs.hg).mono ?_; rintro e u1 ⟨x1, rfl, hx1, hd11⟩
  have hs11 := hs.drew hd11
  have hcG11 := hs11.cG
  clear hs hcG hd11
  go_wp2_with fail
  refine (l3Set_any C b 0 cap l u1 hs11.cur (by omega) hs11.hg).mono ?_; rintro e u2 ⟨x2, rfl, hx2, hd12⟩
  have hs12 := hs11.drew hd12
  have hcG12 := hs12.cG
  clear hs11 hcG11 hd12
  go_wp2_with fail
  have hs1 := hs12.drw.hold
  clear hs12
  go_region_held3 (fun w' => w'.cell? ⟨G, 0, none⟩ = some (.slice (some ⟨b, 0, none⟩) l.length cap) ∧ w'.cell? ⟨w.heap.size, 0, none⟩ = some (atR w' w.heap.size) ∧ w'.frozen? ⟨w.heap.size, 0, none⟩ = false ∧ Scn w C G b cap l w') (first | exact hs1 | exact (Scn.drew (Scn.of (by assumption)) hd5).hold | exact (Scn.setR (Scn.of (by assumption)) _).hold | assumption)
    (first | (go_at_call 161; refine (l3Set_any C b 0 cap l _ (Scn.cur (Scn.of (by assumption))) (by omega) (Scn.hg (Scn.of (by assumption)))).mono ?_; rintro e w5 ⟨x3, rfl, hx3, hd5⟩))
  have hfin := (Scn.drew (Scn.of hs1) hd5).fin (.slice (some ⟨b, 0, none⟩) l.length cap)
  have hcR := hfin.1
  have hbw := (Scn.of hs1).below.size
  have hCb := (Scn.of hs1).hC
  have hbC := (Scn.of hs1).hb
  go_wp2
  refine bodyPost_ret (v := .tuple #[.agg #[.slice (some ⟨b, 0, none⟩) l.length cap], .int .i64 x1, .int .i64 x2, .int .i64 x3]) (by simp [results, Try.results123, go_sem, hcR]) rfl ?_
  exact ⟨b, cap, l, x1, x2, x3, rfl, by omega, hl, hfin.2.1, hx1, hx2, hx3, hfin.2.2⟩
end Go.Proofs.Ytpflnmcecnbilaa
