/-
  Contracts of the reference's drawing: what Chowla's law draws.
-/
import Derived.Test.YtpflnmcecnbilaaDraw12
namespace Go.Proofs.Ytpflnmcecnbilaa
open Go.RowKit

set_option maxHeartbeats 1000000 in
theorem DrawChowlaHolds_any (a : Option Addr) (n cp : Nat) (w : World) (hn : n ≤ 1099511627776) (hb : BytesV w a n) :
    Calls Try.prog 81 #[.slice a n cp] w (Drawn2 w) := by
  have hb0 := hb.below ((Below.refl _ _).alloc (Nat.le_refl _) (.cells #[.slice none 0 0] 26))
  go_enter Try.func81, Try.ntmps81
  go_wp2_with fail
  generalize h0 : w.alloc (.cells #[.slice none 0 0] 26) = w0 at *
  refine (l1New_any a n cp w0 hn hb0).mono ?_; rintro e w2 ⟨C, rfl, hC, hb2, hc, hcd⟩
  go_wp2_with fail
  refine (l2Any_any C w2 hc).mono ?_; rintro e w3 ⟨b, cap, l, rfl, hbb, hl, hg, hd⟩
  have hs := Scn.init hb 26 h0 hC hb2 hc hcd hd hbb hl (cap := cap) hg
  clear h0 hb0 hb hC hb2 hc hcd hd hbb hg
  generalize hG : w3.heap.size = G at *
  have hcG := hs.cG
  go_wp2_with fail
  generalize w3.alloc (.cells #[.slice (some ⟨b, 0, none⟩) l.length cap] 26) = wr at *
  clear hG
  refine (l3Set_any C b 0 cap l _ hs.cur (by omega) hs.hg).mono ?_; rintro e u1 ⟨x1, rfl, hx1, hd1⟩
  have hs1 := hs.drew hd1
  clear hs hd1 hcG
  have hcG := hs1.cG
  go_wp2_with fail
  refine (l3Set_any C b 0 cap l _ hs1.cur (by omega) hs1.hg).mono ?_; rintro e u2 ⟨x2, rfl, hx2, hd2⟩
  have hs2 := hs1.drew hd2
  clear hs1 hd2 hcG
  by_cases h1 : 0 ≤ x2
  · by_cases h2 : x2 < 16777216
    · obtain ⟨X, rfl⟩ : ∃ X : Nat, x2 = (X : Int) := ⟨x2.toNat, by omega⟩
      have hX : X < 16777216 := by omega
      have hor : bits BinOp.or IntKind.i64 (X : Int) 1 = ((X ||| 1 : Nat) : Int) := bits_or_nat X 1 (by omega) (by omega)
      have hor2 : X ||| 1 < 16777216 := Nat.or_lt_two_pow (n := 24) hX (by omega)
      have hcG := hs2.cG
      have hS := hs2.hold
      have hcR0 := hS.2.1
      have hfR := hS.2.2.1
      have hfin := hs2.fin (.slice (some ⟨b, 0, none⟩) l.length cap)
      have hcR := hfin.1
      have hbw := hs2.below.size
      have hCb := hs2.hC
      have hbC := hs2.hb
      clear hs2 hS
      go_wp2_with fail
      refine bodyPost_ret (v := .tuple #[.agg #[.slice (some ⟨b, 0, none⟩) l.length cap], .int .i64 x1, .int .i64 ((X ||| 1 : Nat) : Int)]) (by simp [results, Try.results81, go_sem, hcR]) rfl ?_
      exact ⟨b, cap, l, _, _, rfl, by omega, hl, hfin.2.1, hx1, I64_nat (by omega), hfin.2.2⟩
    · have h3 : (16777216 : Int) ≤ x2 := by omega
      have hcG := hs2.cG
      have hS := hs2.hold
      have hcR0 := hS.2.1
      have hfR := hS.2.2.1
      have hfin := hs2.fin (.slice (some ⟨b, 0, none⟩) l.length cap)
      have hcR := hfin.1
      have hbw := hs2.below.size
      have hCb := hs2.hC
      have hbC := hs2.hb
      clear hs2 hS
      go_wp2_with fail
      refine bodyPost_ret (v := .tuple #[.agg #[.slice (some ⟨b, 0, none⟩) l.length cap], .int .i64 x1, .int .i64 x2]) (by simp [results, Try.results81, go_sem, hcR]) rfl ?_
      exact ⟨b, cap, l, _, _, rfl, by omega, hl, hfin.2.1, hx1, hx2, hfin.2.2⟩
  · have h3 : x2 < 0 := by omega
    have hcG := hs2.cG
    have hS := hs2.hold
    have hcR0 := hS.2.1
    have hfR := hS.2.2.1
    have hfin := hs2.fin (.slice (some ⟨b, 0, none⟩) l.length cap)
    have hcR := hfin.1
    have hbw := hs2.below.size
    have hCb := hs2.hC
    have hbC := hs2.hb
    clear hs2 hS
    go_wp2_with fail
    refine bodyPost_ret (v := .tuple #[.agg #[.slice (some ⟨b, 0, none⟩) l.length cap], .int .i64 x1, .int .i64 x2]) (by simp [results, Try.results81, go_sem, hcR]) rfl ?_
    exact ⟨b, cap, l, _, _, rfl, by omega, hl, hfin.2.1, hx1, hx2, hfin.2.2⟩
end Go.Proofs.Ytpflnmcecnbilaa
