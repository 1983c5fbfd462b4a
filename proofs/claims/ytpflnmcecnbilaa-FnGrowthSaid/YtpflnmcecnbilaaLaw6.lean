/-
  The world inside a law over a code: boxes of groups, groups; the code opened.
-/
import Derived.Test.YtpflnmcecnbilaaDraw5
import Derived.Test.YtpflnmcecnbilaaDraw6
import Derived.Test.YtpflnmcecnbilaaLaw5
import Derived.Test.YtpflnmcecnbilaaLift
namespace Go.Proofs.Ytpflnmcecnbilaa
open Go.RowKit Go.ChangeShapes Go.WideShapes Go.ChangeAt

/-- K: boxes and what they hold; G: groups' lists of orders -/
structure Bag (w : World) (K : List (Nat × Value)) (G : List (Nat × List Int)) (wr : World) : Prop where
  below : Below w.heap.size w wr
  cells : ∀ p ∈ K, p.1 < wr.heap.size ∧ wr.cell? ⟨p.1, 0, none⟩ = some p.2
  grps : ∀ p ∈ G, GrpAt wr p.1 0 p.2
section
variable {w wr w1 : World} {K : List (Nat × Value)} {G : List (Nat × List Int)}
theorem Bag.init (w : World) : Bag w [] [] w := ⟨Below.refl _ _, fun p hp => (by cases hp), fun p hp => (by cases hp)⟩
theorem Bag.step (h : Bag w K G wr) (hb : Below wr.heap.size wr w1) : Bag w K G w1 :=
  ⟨h.below.trans (hb.mono h.below.size), fun p hp => ⟨Nat.lt_of_lt_of_le (h.cells p hp).1 hb.size, (hb.cell (p := ⟨p.1, 0, none⟩) (h.cells p hp).1).trans (h.cells p hp).2⟩, fun p hp => (h.grps p hp).below hb⟩
theorem Bag.drew (h : Bag w K G wr) : Bag w K G wr.drew := h.step (Below.refl _ _).drew
theorem Bag.draws (h : Bag w K G wr) (n : Nat) : Bag w K G (wr.drewN n) := h.step ⟨rfl, rfl, rfl, Nat.le_refl _, fun _ _ => rfl⟩
theorem Bag.addG {b : Nat} {l : List Int} (h : Bag w K G wr) (hg : GrpAt wr b 0 l) : Bag w K ((b, l) :: G) wr :=
  ⟨h.below, h.cells, fun p hp => by
    rcases List.mem_cons.1 hp with rfl | hp
    · exact hg
    · exact h.grps p hp⟩
theorem Bag.box (h : Bag w K G wr) (v : Value) (t : TypeId) : Bag w ((wr.heap.size, v) :: K) G (wr.alloc (.cells #[v] t)) := by
  have h1 := h.step ((Below.refl _ _).alloc (Nat.le_refl _) (.cells #[v] t))
  exact ⟨h1.below, fun p hp => by
    rcases List.mem_cons.1 hp with rfl | hp
    · exact ⟨by simp, box_new _ _ _⟩
    · exact h1.cells p hp, h1.grps⟩
theorem Bag.cell {k : Nat} {v : Value} (h : Bag w K G wr) (hp : (k, v) ∈ K) : wr.cell? ⟨k, 0, none⟩ = some v := (h.cells _ hp).2
theorem Bag.grp {b : Nat} {l : List Int} (h : Bag w K G wr) (hp : (b, l) ∈ G) : GrpAt wr b 0 l := h.grps _ hp
theorem Bag.code {a : Option Addr} {n : Nat} (h : Bag w K G wr) (hb : BytesV w a n) : BytesV wr a n := hb.below h.below
end
theorem S2 {w wr : World} {K : List (Nat × Value)} {G : List (Nat × List Int)} {kB kC : Nat} {u v : Value} (h : Bag w K G wr) (h1 : (kB, u) ∈ K) (h2 : (kC, v) ∈ K) :
    wr.cell? ⟨kB, 0, none⟩ = some u ∧ wr.cell? ⟨kC, 0, none⟩ = some v ∧ Bag w K G wr := ⟨h.cell h1, h.cell h2, h⟩
theorem S3 {w wr : World} {K : List (Nat × Value)} {G : List (Nat × List Int)} {kB kC kD : Nat} {u v x : Value} (h : Bag w K G wr) (h1 : (kB, u) ∈ K) (h2 : (kC, v) ∈ K) (h3 : (kD, x) ∈ K) :
    wr.cell? ⟨kB, 0, none⟩ = some u ∧ wr.cell? ⟨kC, 0, none⟩ = some v ∧ wr.cell? ⟨kD, 0, none⟩ = some x ∧ Bag w K G wr := ⟨h.cell h1, h.cell h2, h.cell h3, h⟩
theorem keepD {w wr w1 : World} {K : List (Nat × Value)} {G : List (Nat × List Int)} {kB g q k : Nat} {u : Value} {dq dk : Int} {D : List Int}
    (h : wr.cell? ⟨kB, 0, none⟩ = some u ∧ wr.cell? ⟨g, q, none⟩ = some (.int .i64 dq) ∧ wr.cell? ⟨g, k, none⟩ = some (.int .i64 dk) ∧ Bag w K G wr) (hb : Below wr.heap.size wr w1) (h1 : (kB, u) ∈ K) (h2 : (g, D) ∈ G)
    (hq : Hid (D.getD q 0 = dq)) (hk : Hid (D.getD k 0 = dk)) (hlq : q < D.length) (hlk : k < D.length) :
    w1.cell? ⟨kB, 0, none⟩ = some u ∧ w1.cell? ⟨g, q, none⟩ = some (.int .i64 dq) ∧ w1.cell? ⟨g, k, none⟩ = some (.int .i64 dk) ∧ Bag w K G w1 := by
  have hB := h.2.2.2.step hb
  exact ⟨hB.cell h1, by rw [(hB.grp h2).cell0 q hlq, hq.out], by rw [(hB.grp h2).cell0 k hlk, hk.out], hB⟩
/-- a slice of bytes, opened -/
theorem open_bytes {H : Type} {enc : TypeId × Value → H} {W : World} {base : Nat} {spare : Nat → Bool} {held : Bool} {fuel : Nat} {v : Value} {x : DataW H × List MemPlace} (h : DataW.trod enc Try.prog W base spare held fuel 22 [v] = some x) :
    ∃ (a : Option Addr) (n cap : Nat), v = .slice a n cap ∧ BytesV W a n ∧ n ≤ 9223372036854775807 := by
  rcases open_ints Try.underlying22 Try.underlying5 (by kernel_rfl) h with ⟨hcs, _⟩ | ⟨x, len, cap, zs, hcs, _, hl, hm, hz, _, hcell, hwf⟩
  · simp at hcs; subst hcs
    exact ⟨none, 0, 0, rfl, .inl rfl, by simp⟩
  · simp at hcs; subst hcs
    have hzl : len ≤ zs.length := by rw [hz]; split <;> omega
    refine ⟨some x, len, cap, rfl, ?_, by simp only [maxLen] at hm; omega⟩
    by_cases h0 : len = 0
    · exact .inl h0
    · right
      obtain ⟨b, off, spot⟩ := x
      have hc := hcell 0 (by omega)
      have hspot : spot = none := by simpa [Addr.add] using World.cell?_spot hc
      subst hspot
      refine ⟨b, off, rfl, ?_, ?_⟩
      · have := World.block_lt_of_cell? W _ hc
        simpa [Addr.add] using this
      · intro i hi
        have hci := hcell i (by omega)
        have e2 : (⟨b, off, none⟩ : Addr).add i = ⟨b, off + i, none⟩ := by simp [Addr.add]
        have hw := hwf _ (getD_mem zs 0 i (by omega))
        rw [← e2, hci]
        generalize zs.getD i 0 = z at *
        simp [Lit.wf, IntKind.min, IntKind.max, IntKind.signed, IntKind.bits] at hw
        exact ⟨z.toNat, by omega, by rw [Int.toNat_of_nonneg hw.1]⟩
end Go.Proofs.Ytpflnmcecnbilaa
