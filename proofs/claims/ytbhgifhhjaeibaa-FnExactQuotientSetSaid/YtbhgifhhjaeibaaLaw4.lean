/-
  The world inside a law that has several slices alive: boxes, slices that came in, slices of its own.
-/
import Derived.Test.YtbhgifhhjaeibaaLaw3
namespace Go.Proofs.Ytbhgifhhjaeibaa
open Go.RowKit

/-- C: boxes and what they hold; R: slices that came in; O: slices of the call's own (block, capacity, integers) -/
structure Liv (w : World) (C : List (Nat × Value)) (R : List (Option Addr × List Int)) (O : List (Nat × Nat × List Int)) (wr : World) : Prop where
  below : Below w.heap.size w wr
  cells : ∀ p ∈ C, p.1 < wr.heap.size ∧ wr.cell? ⟨p.1, 0, none⟩ = some p.2
  bases : ∀ p ∈ C, w.heap.size ≤ p.1
  rows : ∀ p ∈ R, RowV wr p.1 p.2
  owns : ∀ p ∈ O, w.heap.size ≤ p.1 ∧ ∃ B, Own wr B p.1 p.2.1 p.2.2
  old : ∀ p ∈ R, ∀ b off, p.1 = some ⟨b, off, none⟩ → p.2.length = 0 ∨ b < w.heap.size
  apart : (O.map (·.1)).Nodup
  apartC : ∀ p ∈ C, ∀ q ∈ O, p.1 ≠ q.1
section
variable {w wr w1 : World} {C : List (Nat × Value)} {R : List (Option Addr × List Int)} {O : List (Nat × Nat × List Int)}
theorem Liv.init (R : List (Option Addr × List Int)) (h : ∀ p ∈ R, RowV w p.1 p.2) : Liv w [] R [] w :=
  ⟨Below.refl _ _, fun p hp => (by cases hp), fun p hp => (by cases hp), h, fun p hp => (by cases hp), fun p hp => rowV_old (h p hp), by simp, fun p hp => (by cases hp)⟩
theorem Liv.step (h : Liv w C R O wr) (hb : Below wr.heap.size wr w1) : Liv w C R O w1 :=
  ⟨h.below.trans (hb.mono h.below.size), fun p hp => ⟨Nat.lt_of_lt_of_le (h.cells p hp).1 hb.size, (hb.cell (p := ⟨p.1, 0, none⟩) (h.cells p hp).1).trans (h.cells p hp).2⟩, h.bases, fun p hp => (h.rows p hp).below hb,
   fun p hp => ⟨(h.owns p hp).1, (h.owns p hp).2.imp fun _ o => o.step hb⟩, h.old, h.apart, h.apartC⟩
theorem Liv.drew (h : Liv w C R O wr) : Liv w C R O wr.drew := h.step (Below.refl _ _).drew
theorem Liv.box (h : Liv w C R O wr) (t : TypeId) (v : Value) : Liv w ((wr.heap.size, v) :: C) R O (wr.alloc (.cells #[v] t)) := by
  have h1 := h.step ((Below.refl _ _).alloc (Nat.le_refl _) (.cells #[v] t))
  refine ⟨h1.below, fun p hp => ?_, fun p hp => ?_, h1.rows, h1.owns, h1.old, h1.apart, fun p hp q hq => ?_⟩
  · rcases List.mem_cons.1 hp with rfl | hp
    · exact ⟨by simp, by rw [World.cell?_alloc_at _ _ _ _ rfl]; rfl⟩
    · exact h1.cells p hp
  · rcases List.mem_cons.1 hp with rfl | hp
    · exact h.below.size
    · exact h.bases p hp
  · rcases List.mem_cons.1 hp with rfl | hp
    · obtain ⟨_, B, o⟩ := h.owns q hq
      have := o.lt
      show wr.heap.size ≠ q.1
      omega
    · exact h.apartC p hp q hq
theorem Liv.own {l : List Int} {g cap : Nat} (h : Liv w C R O wr) (hm : Made wr l g cap w1) : Liv w C R ((g, cap, l) :: O) w1 := by
  have h1 := h.step hm.below
  have hb := hm.base
  have hs := h.below.size
  refine ⟨h1.below, h1.cells, h1.bases, h1.rows, fun p hp => ?_, h1.old, ?_, fun p hp q hq => ?_⟩
  · rcases List.mem_cons.1 hp with rfl | hp
    · exact ⟨Nat.le_trans hs hb, _, hm.toOwn⟩
    · exact h1.owns p hp
  · rw [List.map_cons, List.nodup_cons]
    refine ⟨fun hc => ?_, h.apart⟩
    obtain ⟨q, hq, e⟩ := List.mem_map.1 hc
    obtain ⟨_, B, o⟩ := h.owns q hq
    have h2 := o.lt
    have e' : q.1 = g := e
    omega
  · rcases List.mem_cons.1 hq with rfl | hq
    · have := (h.cells p hp).1
      show p.1 ≠ g
      omega
    · exact h.apartC p hp q hq
theorem Liv.mark {O1 O2 : List (Nat × Nat × List Int)} {g cap B : Nat} {l l' : List Int} (h : Liv w C R (O1 ++ (g, cap, l) :: O2) wr) (ho : Own w1 B g cap l') (hg : wr.grownBy w1 (some g)) : Liv w C R (O1 ++ (g, cap, l') :: O2) w1 := by
  have hmem : (g, cap, l) ∈ O1 ++ (g, cap, l) :: O2 := by simp
  have hgb : w.heap.size ≤ g := (h.owns _ hmem).1
  have hap := h.apart
  have hne : ∀ q, q ∈ O1 ∨ q ∈ O2 → q.1 ≠ g := fun q hq e => by
    rw [List.map_append, List.map_cons, List.nodup_append] at hap
    rcases hq with hq | hq
    · exact hap.2.2 q.1 (List.mem_map.2 ⟨q, hq, rfl⟩) g (by simp) e
    · exact (List.nodup_cons.1 hap.2.1).1 (by rw [← e]; exact List.mem_map.2 ⟨q, hq, rfl⟩)
  refine ⟨h.below.grown hg h.below.size (fun k hk => by cases hk; exact hgb), fun p hp => ?_, h.bases, fun p hp => ?_, fun p hp => ?_, h.old, by simpa using hap, fun p hp q hq => ?_⟩
  · have h1 := h.cells p hp
    refine ⟨Nat.lt_of_lt_of_le h1.1 hg.size, ?_⟩
    rw [← h1.2]; exact World.cell?_of_block (hg.block _ h1.1 (by have := h.apartC p hp _ hmem; simpa using this))
  · rcases h.rows p hp with h0 | ⟨b, off, ha, hb⟩
    · exact .inl h0
    · rcases h.old p hp b off ha with h0 | h0
      · exact .inl h0
      · exact .inr ⟨b, off, ha, hb.grown hg (by omega)⟩
  · rcases List.mem_append.1 hp with hp | hp
    · obtain ⟨h1, B', o⟩ := h.owns p (by simp [hp])
      exact ⟨h1, B', o.grown hg (hne p (.inl hp))⟩
    · rcases List.mem_cons.1 hp with rfl | hp
      · exact ⟨hgb, B, ho⟩
      · obtain ⟨h1, B', o⟩ := h.owns p (by simp [hp])
        exact ⟨h1, B', o.grown hg (hne p (.inr hp))⟩
  · rcases List.mem_append.1 hq with hq | hq
    · exact h.apartC p hp q (by simp [hq])
    · rcases List.mem_cons.1 hq with rfl | hq
      · have := h.apartC p hp _ hmem
        show p.1 ≠ g
        exact this
      · exact h.apartC p hp q (by simp [hq])
theorem Liv.cell {k : Nat} {v : Value} (h : Liv w C R O wr) (hp : (k, v) ∈ C) : wr.cell? ⟨k, 0, none⟩ = some v := (h.cells _ hp).2
theorem Liv.row {a : Option Addr} {l : List Int} (h : Liv w C R O wr) (hp : (a, l) ∈ R) : RowV wr a l := h.rows _ hp
theorem Liv.grp {g c : Nat} {l : List Int} (h : Liv w C R O wr) (hp : (g, c, l) ∈ O) : GrpAt wr g 0 l := by
  obtain ⟨_, _, o⟩ := h.owns _ hp; exact o.grp
theorem Liv.ownAt {g c : Nat} {l : List Int} (h : Liv w C R O wr) (hp : (g, c, l) ∈ O) : ∃ B, Own wr B g c l := (h.owns _ hp).2
theorem Liv.hold {k j : Nat} {u v : Value} (h : Liv w C R O wr) (hk : (k, u) ∈ C) (hj : (j, v) ∈ C) : wr.cell? ⟨k, 0, none⟩ = some u ∧ wr.cell? ⟨j, 0, none⟩ = some v ∧ Liv w C R O wr := ⟨h.cell hk, h.cell hj, h⟩
theorem Liv.keep {k j : Nat} {u v : Value} (h : wr.cell? ⟨k, 0, none⟩ = some u ∧ wr.cell? ⟨j, 0, none⟩ = some v ∧ Liv w C R O wr) (hb : Below wr.heap.size wr w1) (hk : (k, u) ∈ C) (hj : (j, v) ∈ C) : w1.cell? ⟨k, 0, none⟩ = some u ∧ w1.cell? ⟨j, 0, none⟩ = some v ∧ Liv w C R O w1 := (h.2.2.step hb).hold hk hj
end
end Go.Proofs.Ytbhgifhhjaeibaa
