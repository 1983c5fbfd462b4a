/-
  Contracts of the laws' helpers that write marks into slices of their own; the world inside a law whose program returns a list.
-/
import Derived.Test.YtpflnmcecnbilaaLaw2
namespace Go.Proofs.Ytpflnmcecnbilaa
open Go.RowKit

/-- a slice of integers of the call's own, that may be written -/
def Own (wr : World) (B g cap : Nat) (l : List Int) : Prop := wr.ownsRow B 3 1 (.slice (some ⟨g, 0, none⟩) l.length cap) l.length (l.map (Value.int .i64)) ∧ B ≤ g
theorem Made.toOwn {w wr : World} {l : List Int} {g cap : Nat} (h : Made w l g cap wr) : Own wr w.heap.size g cap l := ⟨h.own, h.base⟩
theorem Own.lt {wr : World} {B g cap : Nat} {l : List Int} (h : Own wr B g cap l) : g < wr.heap.size := (h.1.lt g rfl).2
theorem Own.cell {wr : World} {B g cap : Nat} {l : List Int} (h : Own wr B g cap l) : ∀ i, i < l.length → wr.cell? ⟨g, i, none⟩ = some (.int .i64 (l.getD i 0)) := fun i hi => by
  rw [h.1.cellAt i (by omega)]; simp [List.getD_eq_getElem?_getD, List.getElem?_eq_getElem hi]
theorem Own.grp {wr : World} {B g cap : Nat} {l : List Int} (h : Own wr B g cap l) : GrpAt wr g 0 l := ⟨h.lt, fun i hi => by rw [Nat.zero_add]; exact h.cell i hi⟩
theorem Own.frozen {wr : World} {B g cap : Nat} {l : List Int} (h : Own wr B g cap l) (j : Nat) : wr.frozen? ⟨g, j, none⟩ = false := h.1.frozenAt j
theorem Own.step {wr w1 : World} {B g cap : Nat} {l : List Int} (h : Own wr B g cap l) (hb : Below wr.heap.size wr w1) : Own w1 B g cap l :=
  ⟨h.1.kept (row := none) ⟨hb.os, hb.tape, hb.output, hb.size, fun k hk _ => hb.block k hk⟩ (by simp [Value.ownBlock]), h.2⟩
theorem Own.grown {wr w1 : World} {B g cap r : Nat} {l : List Int} (h : Own wr B g cap l) (hg : wr.grownBy w1 (some r)) (hne : g ≠ r) : Own w1 B g cap l :=
  ⟨h.1.kept hg (by simp [Value.ownBlock]; exact hne), h.2⟩
theorem Own.store {wr : World} {B g cap : Nat} {l : List Int} (h : Own wr B g cap l) (j : Nat) (x : Int) : Own (wr.setCell ⟨g, j, none⟩ (.int .i64 x)) B g cap (l.set j x) := by
  have := (h.1.stored j (.int .i64 x)).1
  unfold Own
  rw [List.length_set, ← List.map_set] at *
  exact ⟨this, h.2⟩
theorem grown_setCell (w : World) (g j : Nat) (u : Value) : w.grownBy (w.setCell ⟨g, j, none⟩ u) (some g) :=
  ⟨rfl, rfl, rfl, by simp [World.setCell], fun k _ hk => Below.heap_setCell _ _ _ _ (fun e => hk (by simp [e]))⟩
theorem grown_trans {w w1 w2 : World} {r : Option Nat} (h : w.grownBy w1 r) (h' : w1.grownBy w2 r) : w.grownBy w2 r :=
  ⟨h'.os.trans h.os, h'.tape.trans h.tape, h'.output.trans h.output, Nat.le_trans h.size h'.size, fun k hk hne => (h'.block k (Nat.lt_of_lt_of_le hk h.size) hne).trans (h.block k hk hne)⟩
theorem grown_refl (w : World) (r : Option Nat) : w.grownBy w r := ⟨rfl, rfl, rfl, Nat.le_refl _, fun _ _ _ => rfl⟩
theorem grown_below {w w1 : World} (hb : Below w.heap.size w w1) (r : Option Nat) : w.grownBy w1 r := ⟨hb.os, hb.tape, hb.output, hb.size, fun k hk _ => hb.block k hk⟩
theorem GrpAt.grown {w w1 : World} {b off r : Nat} {l : List Int} (h : GrpAt w b off l) (hg : w.grownBy w1 (some r)) (hne : b ≠ r) : GrpAt w1 b off l :=
  ⟨Nat.lt_of_lt_of_le h.blt hg.size, fun i hi => by rw [← h.cell i hi]; exact World.cell?_of_block (hg.block _ h.blt (by simpa using hne))⟩
theorem RowV.grown {w w1 : World} {a : Option Addr} {l : List Int} {r : Nat} (h : RowV w a l) (hg : w.grownBy w1 (some r)) (hne : ∀ b off, a = some ⟨b, off, none⟩ → b ≠ r) : RowV w1 a l := by
  rcases h with h | ⟨b, off, rfl, hb⟩
  · exact .inl h
  · exact .inr ⟨b, off, rfl, hb.grown hg (hne b off rfl)⟩
/-- marks: k, k + 1 and so on -/
def marks (k n : Nat) : List Int := (List.range n).map fun i => ((k + i : Nat) : Int)
theorem marks_len (k n : Nat) : (marks k n).length = n := by simp [marks]
theorem marks_getD {k n i : Nat} (h : i < n) : (marks k n).getD i 0 = ((k + i : Nat) : Int) := by simp [marks, List.getD_eq_getElem?_getD, List.getElem?_range h]
theorem marks_step (l : List Int) (k j : Nat) (h : j < l.length) : (marks k j ++ l.drop j).set j ((k + j : Nat) : Int) = marks k (j + 1) ++ l.drop (j + 1) := by
  rw [List.set_append_right _ _ (by simp [marks])]
  rw [drop_cons l 0 j h]
  simp [marks, List.range_succ]
theorem marks_mid_len (l : List Int) (k j : Nat) (h : j ≤ l.length) : (marks k j ++ l.drop j).length = l.length := by simp [marks]; omega

/-- the world inside a law whose program returns a list: the boxed group, its copy x0 in block X over g2, the reference's list over s, the program's over r -/
structure StY (w : World) (a : Option Addr) (cap : Nat) (l : List Int) (X g2 c2 : Nat) (lx : List Int) (s : Nat) (ls : List Int) (r cr : Nat) (lr : List Int) (wr : World) : Prop where
  st : StR w a cap l wr
  xlt : X < wr.heap.size
  xbox : wr.cell? ⟨X, 0, none⟩ = some (.slice (some ⟨g2, 0, none⟩) l.length c2)
  xown : ∃ B, Own wr B g2 c2 lx
  spec : GrpAt wr s 0 ls
  res : ∃ B, Own wr B r cr lr
  o1 : w.heap.size < s
  o2 : s < g2
  o3 : g2 < X
  o4 : X < r
  old : ∀ b off, a = some ⟨b, off, none⟩ → l.length = 0 ∨ b < w.heap.size
section
variable {w wr w1 : World} {a : Option Addr} {cap X g2 c2 s r cr : Nat} {l lx ls lr : List Int}
theorem StY.step (h : StY w a cap l X g2 c2 lx s ls r cr lr wr) (hb : Below wr.heap.size wr w1) : StY w a cap l X g2 c2 lx s ls r cr lr w1 :=
  ⟨h.st.step hb, Nat.lt_of_lt_of_le h.xlt hb.size, (hb.cell (p := ⟨X, 0, none⟩) h.xlt).trans h.xbox, h.xown.imp fun _ o => o.step hb, h.spec.below hb, h.res.imp fun _ o => o.step hb, h.o1, h.o2, h.o3, h.o4, h.old⟩
theorem StR.grown (h : StR w a cap l wr) {g : Nat} (hg : wr.grownBy w1 (some g)) (hlt : w.heap.size < g) (hold : ∀ b off, a = some ⟨b, off, none⟩ → l.length = 0 ∨ b < w.heap.size) : StR w a cap l w1 := by
  refine ⟨h.below.grown hg h.below.size (fun k hk => by cases hk; omega), Nat.lt_of_lt_of_le h.size hg.size, ?_, ?_⟩
  · rw [← h.box]; exact World.cell?_of_block (hg.block _ h.size (by simp; omega))
  · rcases h.row with h0 | ⟨b, off, rfl, hb⟩
    · exact .inl h0
    · rcases hold b off rfl with h0 | h0
      · exact .inl h0
      · exact .inr ⟨b, off, rfl, hb.grown hg (by omega)⟩
theorem StY.markX (h : StY w a cap l X g2 c2 lx s ls r cr lr wr) {B : Nat} {lx' : List Int} (ho : Own w1 B g2 c2 lx') (hg : wr.grownBy w1 (some g2)) : StY w a cap l X g2 c2 lx' s ls r cr lr w1 := by
  have h1 := h.o1; have h2 := h.o2; have h3 := h.o3; have h4 := h.o4
  exact ⟨h.st.grown hg (by omega) h.old, Nat.lt_of_lt_of_le h.xlt hg.size, by rw [← h.xbox]; exact World.cell?_of_block (hg.block _ h.xlt (by simp; omega)), ⟨B, ho⟩, h.spec.grown hg (by omega), h.res.imp fun _ o => o.grown hg (by omega), h1, h2, h3, h4, h.old⟩
theorem StY.markR (h : StY w a cap l X g2 c2 lx s ls r cr lr wr) {B : Nat} {lr' : List Int} (ho : Own w1 B r cr lr') (hg : wr.grownBy w1 (some r)) : StY w a cap l X g2 c2 lx s ls r cr lr' w1 := by
  have h1 := h.o1; have h2 := h.o2; have h3 := h.o3; have h4 := h.o4
  exact ⟨h.st.grown hg (by omega) h.old, Nat.lt_of_lt_of_le h.xlt hg.size, by rw [← h.xbox]; exact World.cell?_of_block (hg.block _ h.xlt (by simp; omega)), h.xown.imp fun _ o => o.grown hg (by omega), h.spec.grown hg (by omega), ⟨B, ho⟩, h1, h2, h3, h4, h.old⟩
theorem StY.hold (h : StY w a cap l X g2 c2 lx s ls r cr lr wr) : wr.cell? ⟨w.heap.size, 0, none⟩ = some (.slice a l.length cap) ∧ wr.cell? ⟨X, 0, none⟩ = some (.slice (some ⟨g2, 0, none⟩) l.length c2) ∧ StY w a cap l X g2 c2 lx s ls r cr lr wr := ⟨h.st.box, h.xbox, h⟩
theorem StY.keep (h : wr.cell? ⟨w.heap.size, 0, none⟩ = some (.slice a l.length cap) ∧ wr.cell? ⟨X, 0, none⟩ = some (.slice (some ⟨g2, 0, none⟩) l.length c2) ∧ StY w a cap l X g2 c2 lx s ls r cr lr wr) (hb : Below wr.heap.size wr w1) :
    w1.cell? ⟨w.heap.size, 0, none⟩ = some (.slice a l.length cap) ∧ w1.cell? ⟨X, 0, none⟩ = some (.slice (some ⟨g2, 0, none⟩) l.length c2) ∧ StY w a cap l X g2 c2 lx s ls r cr lr w1 := (h.2.2.step hb).hold
theorem StY.rowOf (h : wr.cell? ⟨w.heap.size, 0, none⟩ = some (.slice a l.length cap) ∧ wr.cell? ⟨X, 0, none⟩ = some (.slice (some ⟨g2, 0, none⟩) l.length c2) ∧ StY w a cap l X g2 c2 lx s ls r cr lr wr) : RowV wr a l := h.2.2.st.row
theorem StY.xgrpOf (h : wr.cell? ⟨w.heap.size, 0, none⟩ = some (.slice a l.length cap) ∧ wr.cell? ⟨X, 0, none⟩ = some (.slice (some ⟨g2, 0, none⟩) l.length c2) ∧ StY w a cap l X g2 c2 lx s ls r cr lr wr) : GrpAt wr g2 0 lx := h.2.2.xown.elim fun _ o => o.grp
theorem StY.resGrp (h : StY w a cap l X g2 c2 lx s ls r cr lr wr) : GrpAt wr r 0 lr := h.res.elim fun _ o => o.grp
theorem StY.init {w4 w5 : World} {lx0 : List Int} {w3 : World} (h : StR w a cap l w4) (hm2 : Made w3 lx0 g2 c2 w4) (hl0 : lx0 = l) (hs : GrpAt w4 s 0 ls) (hss : s < w3.heap.size) (hs1 : w.heap.size < s) (t : TypeId)
    (hmr : Made (w4.alloc (.cells #[.slice (some ⟨g2, 0, none⟩) l.length c2] t)) lr r cr w5) (hold : ∀ b off, a = some ⟨b, off, none⟩ → l.length = 0 ∨ b < w.heap.size) : StY w a cap l w4.heap.size g2 c2 l s ls r cr lr w5 := by
  subst hl0
  have hb := hmr.below
  have hal : Below w4.heap.size w4 (w4.alloc (.cells #[.slice (some ⟨g2, 0, none⟩) lx0.length c2] t)) := (Below.refl _ _).alloc (Nat.le_refl _) _
  have hx := StX.init (c := c2) t h hm2.grp
  have hx5 := hx.step hb
  have hb1 := hm2.base
  have hb2 := hm2.lt
  have hb3 := hmr.base
  refine ⟨hx5.st, hx5.lt, hx5.xbox, ⟨_, (hm2.toOwn.step hal).step hb⟩, (hs.below hal).below hb, ⟨_, hmr.toOwn⟩, hs1, by omega, hb2, ?_, hold⟩
  simp at hb3; omega
end
theorem rowV_old {w : World} {a : Option Addr} {l : List Int} (h : RowV w a l) : ∀ b off, a = some ⟨b, off, none⟩ → l.length = 0 ∨ b < w.heap.size := by
  intro b off ha
  rcases h with h0 | ⟨b', off', e, hg⟩
  · exact .inl h0
  · rw [ha] at e; cases e; exact .inr hg.blt
end Go.Proofs.Ytpflnmcecnbilaa
