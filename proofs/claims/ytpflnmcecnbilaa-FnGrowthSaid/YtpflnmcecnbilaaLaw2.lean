/-
  Contracts of the laws' own helpers: groups compared; the world inside a law.
-/
import Derived.Test.YtpflnmcecnbilaaLaw1
import Derived.Deep.RegionHeld3
namespace Go.Proofs.Ytpflnmcecnbilaa
open Go.RowKit

set_option maxHeartbeats 400000 in
theorem eqGroup_any (b1 o1 c1 b2 o2 c2 : Nat) (l1 l2 : List Int) (w : World) (h1 : l1.length ≤ 1048576) (h2 : l2.length ≤ 1048576) (hg1 : GrpAt w b1 o1 l1) (hg2 : GrpAt w b2 o2 l2) :
    Calls Try.prog 57 #[.agg #[.slice (some ⟨b1, o1, none⟩) l1.length c1], .agg #[.slice (some ⟨b2, o2, none⟩) l2.length c2]] w fun e w' => e = .returned (.bool (eqL l1 l2)) ∧ Below w.heap.size w w' := by
  go_enter Try.func57, Try.ntmps57
  go_wp2_with fail
  refine (eqIntS_any _ _ _ _ _ _ _ _ _ h1 h2 ((hg1.alloc _).alloc _) ((hg2.alloc _).alloc _)).mono ?_
  rintro e w1 ⟨rfl, hb1⟩
  have hb : Below w.heap.size w w1 := (((Below.refl _ _).alloc (Nat.le_refl _) _).alloc (by simp) _).trans (hb1.mono (by simp; omega))
  clear hb1
  by_cases he : eqL l1 l2 = true
  · go_wp2
    go_ret
    exact ⟨ret_b (by rw [he]), hb⟩
  · have he' : eqL l1 l2 = false := by simpa using he
    go_wp2
    go_ret
    exact ⟨ret_b (by rw [he']), hb⟩

/-- the world inside a law that has boxed its group -/
structure StR (w : World) (a : Option Addr) (cap : Nat) (l : List Int) (wr : World) : Prop where
  below : Below w.heap.size w wr
  size : w.heap.size < wr.heap.size
  box : wr.cell? ⟨w.heap.size, 0, none⟩ = some (.slice a l.length cap)
  row : RowV wr a l
theorem StR.init {w : World} {a : Option Addr} {l : List Int} (cap : Nat) (t : TypeId) (h : RowV w a l) : StR w a cap l (w.alloc (.cells #[.slice a l.length cap] t)) :=
  ⟨(Below.refl _ _).alloc (Nat.le_refl _) _, by simp, by rw [World.cell?_alloc_at _ _ _ _ rfl]; rfl, h.below ((Below.refl _ _).alloc (Nat.le_refl _) _)⟩
theorem StR.step {w wr w1 : World} {a : Option Addr} {cap : Nat} {l : List Int} (h : StR w a cap l wr) (hb : Below wr.heap.size wr w1) : StR w a cap l w1 :=
  ⟨h.below.trans (hb.mono (Nat.le_of_lt h.size)), Nat.lt_of_lt_of_le h.size hb.size, (hb.cell (p := ⟨w.heap.size, 0, none⟩) h.size).trans h.box, h.row.below hb⟩
/-- .. and has laid a copy of it in block X -/
structure StX (w : World) (a : Option Addr) (cap : Nat) (l : List Int) (X g c : Nat) (wr : World) : Prop where
  st : StR w a cap l wr
  lt : X < wr.heap.size
  xbox : wr.cell? ⟨X, 0, none⟩ = some (.slice (some ⟨g, 0, none⟩) l.length c)
  xgrp : GrpAt wr g 0 l
theorem StX.init {w wr : World} {a : Option Addr} {cap : Nat} {l : List Int} {g c : Nat} (t : TypeId) (h : StR w a cap l wr) (hg : GrpAt wr g 0 l) : StX w a cap l wr.heap.size g c (wr.alloc (.cells #[.slice (some ⟨g, 0, none⟩) l.length c] t)) :=
  ⟨h.step ((Below.refl _ _).alloc (Nat.le_refl _) _), by simp, by rw [World.cell?_alloc_at _ _ _ _ rfl]; rfl, hg.alloc _⟩
theorem StX.step {w wr w1 : World} {a : Option Addr} {cap : Nat} {l : List Int} {X g c : Nat} (h : StX w a cap l X g c wr) (hb : Below wr.heap.size wr w1) : StX w a cap l X g c w1 :=
  ⟨h.st.step hb, Nat.lt_of_lt_of_le h.lt hb.size, (hb.cell (p := ⟨X, 0, none⟩) h.lt).trans h.xbox, h.xgrp.below hb⟩
theorem StX.hold {w wr : World} {a : Option Addr} {cap : Nat} {l : List Int} {X g c : Nat} (h : StX w a cap l X g c wr) :
    wr.cell? ⟨w.heap.size, 0, none⟩ = some (.slice a l.length cap) ∧ wr.cell? ⟨X, 0, none⟩ = some (.slice (some ⟨g, 0, none⟩) l.length c) ∧ StX w a cap l X g c wr := ⟨h.st.box, h.xbox, h⟩
theorem StX.drew {w wr : World} {a : Option Addr} {cap : Nat} {l : List Int} {X g c : Nat} (h : StX w a cap l X g c wr) : StX w a cap l X g c wr.drew := h.step (Below.refl _ _).drew
theorem StX.keep {w wr w1 : World} {a : Option Addr} {cap : Nat} {l : List Int} {X g c : Nat} (h : wr.cell? ⟨w.heap.size, 0, none⟩ = some (.slice a l.length cap) ∧ wr.cell? ⟨X, 0, none⟩ = some (.slice (some ⟨g, 0, none⟩) l.length c) ∧ StX w a cap l X g c wr) (hb : Below wr.heap.size wr w1) :
    w1.cell? ⟨w.heap.size, 0, none⟩ = some (.slice a l.length cap) ∧ w1.cell? ⟨X, 0, none⟩ = some (.slice (some ⟨g, 0, none⟩) l.length c) ∧ StX w a cap l X g c w1 := (h.2.2.step hb).hold
theorem StX.rowOf {w wr : World} {a : Option Addr} {cap : Nat} {l : List Int} {X g c : Nat} (h : wr.cell? ⟨w.heap.size, 0, none⟩ = some (.slice a l.length cap) ∧ wr.cell? ⟨X, 0, none⟩ = some (.slice (some ⟨g, 0, none⟩) l.length c) ∧ StX w a cap l X g c wr) : RowV wr a l := h.2.2.st.row
theorem StX.xgrpOf {w wr : World} {a : Option Addr} {cap : Nat} {l : List Int} {X g c : Nat} (h : wr.cell? ⟨w.heap.size, 0, none⟩ = some (.slice a l.length cap) ∧ wr.cell? ⟨X, 0, none⟩ = some (.slice (some ⟨g, 0, none⟩) l.length c) ∧ StX w a cap l X g c wr) : GrpAt wr g 0 l := h.2.2.xgrp
end Go.Proofs.Ytpflnmcecnbilaa
