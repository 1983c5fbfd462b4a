/-
  The arguments of a law, opened: a slice of integers, a group by value.
-/
import Derived.Test.YtpflnmcecnbilaaLaw1
import Derived.ProofKit
import Derived.OpenShut
import Derived.ShutString
import Derived.ChangeOld
import Derived.Lib.SmallJoins
namespace Go.Proofs.Ytpflnmcecnbilaa
open Go.ChangeShapes Go.WideShapes Go.ChangeAt Go.RowKit

theorem own : ownKnob Try.prog.godebug = none := by kernel_rfl
theorem laidOut : laidOutB Try.prog = true := by kernel_rfl

theorem open_row {H : Type} {enc : TypeId × Value → H} {W : World} {base : Nat} {spare : Nat → Bool} {held : Bool} {fuel : Nat} {v : Value} {x : DataW H × List MemPlace} (h : DataW.trod enc Try.prog W base spare held fuel 24 [v] = some x) :
    ∃ (a : Option Addr) (l : List Int) (cap : Nat), v = .slice a l.length cap ∧ RowV W a l ∧ l.length ≤ 9223372036854775807 := by
  rcases open_ints Try.underlying24 Try.underlying3 (by kernel_rfl) h with ⟨hcs, _⟩ | ⟨x, len, cap, zs, hcs, _, hl, hm, hz, _, hcell, _⟩
  · simp at hcs; subst hcs
    exact ⟨none, [], 0, rfl, .inl rfl, by simp⟩
  · simp at hcs; subst hcs
    have hzl : len ≤ zs.length := by rw [hz]; split <;> omega
    have hlen : (zs.take len).length = len := by simp; omega
    refine ⟨some x, zs.take len, cap, by rw [hlen], ?_, by simp only [maxLen] at hm; omega⟩
    by_cases h0 : len = 0
    · left; rw [hlen]; exact h0
    · right
      obtain ⟨b, off, spot⟩ := x
      have hc := hcell 0 (by omega)
      have hspot : spot = none := by simpa [Addr.add] using World.cell?_spot hc
      subst hspot
      refine ⟨b, off, rfl, ?_, ?_⟩
      · have := World.block_lt_of_cell? W _ hc
        simpa [Addr.add] using this
      · intro i hi
        rw [hlen] at hi
        have hci := hcell i (by omega)
        have e : (zs.take len).getD i 0 = zs.getD i 0 := by simp [List.getD_eq_getElem?_getD, hi]
        rw [e]
        have e2 : (⟨b, off, none⟩ : Addr).add i = ⟨b, off + i, none⟩ := by simp [Addr.add]
        rw [← e2]; exact hci
theorem open_group {H : Type} {enc : TypeId × Value → H} {W : World} {base b0 : Nat} {spare : Nat → Bool} {held : Bool} {r : Reach} {v : Value} {d : DataW H} {p : List MemPlace}
    (hv : Value.okWide Try.prog W r b0 52 v) (h : DataW.Trod enc Try.prog W base spare held 52 v d p) :
    ∃ (a : Option Addr) (l : List Int) (cap : Nat), v = .agg #[.slice a l.length cap] ∧ RowV W a l ∧ l.length ≤ 9223372036854775807 := by
  obtain ⟨cs, rfl, hsz⟩ := okWide_struct Try.underlying52 hv
  have hC : Try.prog.cellsOf 52 = 1 := by kernel_rfl
  have hcs : ∃ c0, cs = #[c0] := by
    rw [hC] at hsz
    obtain ⟨l⟩ := cs
    match l, hsz with
    | [c], _ => exact ⟨c, rfl⟩
  obtain ⟨c0, rfl⟩ := hcs
  obtain ⟨fuel, hf⟩ := h
  obtain ⟨y0, n, _, _, h0⟩ := trod_struct1 Try.underlying52 hf
  have hone : Try.prog.cellsOf 24 = 1 := by kernel_rfl
  have h0' : DataW.trod enc Try.prog W base spare held n 24 [c0] = some y0 := by simpa [Value.cells, hone] using h0
  obtain ⟨a, l, cap, hc0, hr, hl⟩ := open_row h0'
  subst hc0
  exact ⟨a, l, cap, rfl, hr, hl⟩
end Go.Proofs.Ytpflnmcecnbilaa
