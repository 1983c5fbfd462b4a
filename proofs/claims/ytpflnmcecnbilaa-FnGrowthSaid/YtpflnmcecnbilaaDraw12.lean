/-
  Contracts of the reference's drawing: what the laws on bounds draw.
-/
import Derived.Test.YtpflnmcecnbilaaDraw11
import Derived.Test.YtpflnmcecnbilaaDraw8
namespace Go.Proofs.Ytpflnmcecnbilaa
open Go.RowKit

set_option maxHeartbeats 1000000 in
theorem l6Both_any (a : Option Addr) (n cp : Nat) (w : World) (hn : n ≤ 1099511627776) (hb : BytesV w a n) :
    Calls Try.prog 172 #[.slice a n cp] w (Drawn1 w) := by
  have hb0 := hb.below ((Below.refl _ _).alloc (Nat.le_refl _) (.cells #[.slice none 0 0] 26))
  go_enter Try.func172, Try.ntmps172
  go_wp2_with fail
  generalize h0 : w.alloc (.cells #[.slice none 0 0] 26) = w0 at *
  refine (l1New_any a n cp w0 hn hb0).mono ?_; rintro e w1 ⟨C, rfl, hC, hb1, hc, -⟩
  go_wp2_with fail
  refine (l6Set_any C w1 hc).mono ?_; rintro e w2 ⟨b, cap, l, x1, rfl, hbb, hl, hg, hx1, hd⟩
  have hs := Wrp0.init 26 h0 (hd.below hb1 hC) (Nat.le_trans hb1.size hbb) hg
  have hbb2 := Nat.le_of_lt hs.hb
  clear h0 hb0 hb hb1 hc hd hg hbb
  have hlR := hs.lR
  have hcR0 := hs.cR
  have hfR := hs.fR
  have hfin := hs.fin (.slice (some ⟨b, 0, none⟩) l.length cap) (.cells #[.slice (some ⟨b, 0, none⟩) l.length cap] 26)
  have hcR := hfin.1
  clear hs
  go_wp2_with fail
  refine bodyPost_ret (v := .tuple #[.agg #[.slice (some ⟨b, 0, none⟩) l.length cap], .int .i64 x1]) (by simp [results, Try.results172, go_sem, hcR]) rfl ?_
  exact ⟨b, cap, l, x1, rfl, hbb2, hl, hfin.2.1, hx1, hfin.2.2⟩
set_option maxHeartbeats 1000000 in
theorem DrawDoublingOf_any (a : Option Addr) (n cp : Nat) (w : World) (hn : n ≤ 1099511627776) (hb : BytesV w a n) :
    Calls Try.prog 105 #[.slice a n cp] w (Drawn1 w) := by
  have hb0 := hb.below ((Below.refl _ _).alloc (Nat.le_refl _) (.cells #[.slice none 0 0] 26))
  go_enter Try.func105, Try.ntmps105
  go_wp2_with fail
  generalize h0 : w.alloc (.cells #[.slice none 0 0] 26) = w0 at *
  refine (l6Both_any a n cp w0 hn hb0).mono ?_; rintro e w2 ⟨b, cap, l, x1, rfl, hbb, hl, hg, hx1, hb2⟩
  have hs := Wrp0.init 26 h0 hb2 hbb hg
  have hbb2 := Nat.le_of_lt hs.hb
  clear h0 hb0 hb hb2 hg hbb
  have hlR := hs.lR
  have hcR0 := hs.cR
  have hfR := hs.fR
  have hfin := hs.fin (.slice (some ⟨b, 0, none⟩) l.length cap) (.cells #[.slice (some ⟨b, 0, none⟩) l.length cap] 26)
  have hcR := hfin.1
  clear hs
  go_wp2_with fail
  refine bodyPost_ret (v := .tuple #[.agg #[.slice (some ⟨b, 0, none⟩) l.length cap], .int .i64 x1]) (by simp [results, Try.results105, go_sem, hcR]) rfl ?_
  exact ⟨b, cap, l, x1, rfl, hbb2, hl, hfin.2.1, hx1, hfin.2.2⟩
set_option maxHeartbeats 1000000 in
theorem l9Two_any (a : Option Addr) (n cp : Nat) (w : World) (hn : n ≤ 1099511627776) (hb : BytesV w a n) :
    Calls Try.prog 160 #[.slice a n cp] w (Drawn2 w) := by
  have hb0 := hb.below ((Below.refl _ _).alloc (Nat.le_refl _) (.cells #[.slice none 0 0] 26))
  go_enter Try.func160, Try.ntmps160
  go_wp2_with fail
  generalize h0 : w.alloc (.cells #[.slice none 0 0] 26) = w0 at *
  refine (l1New_any a n cp w0 hn hb0).mono ?_; rintro e w2 ⟨C, rfl, hC, hb2, hc, hcd⟩
  go_wp2_with fail
  refine (l6Set_any C w2 hc).mono ?_; rintro e w3 ⟨b, cap, l, x1, rfl, hbb, hl, hg, hx1, hd⟩
  have hs := Scn.init hb 26 h0 hC hb2 hc hcd hd hbb hl (cap := cap) hg
  clear h0 hb0 hb hC hb2 hc hcd hd hbb hg
  generalize hG : w3.heap.size = G at *
  have hcG := hs.cG
  go_wp2_with fail
  generalize w3.alloc (.cells #[.slice (some ⟨b, 0, none⟩) l.length cap] 26) = wr at *
  clear hG
  refine (l1Once_any C 3 _ (by omega) (by omega) hs.cur).mono ?_; rintro e u1 ⟨t, rfl, hd1⟩
  have hs1 := hs.drew hd1
  clear hs hd1 hcG
  cases t
  · have hS := hs1.drw.hold
    clear hs1
    go_wp2_with fail
    go_region_held3 (fun w' => w'.cell? ⟨G, 0, none⟩ = some (.slice (some ⟨b, 0, none⟩) l.length cap) ∧ w'.cell? ⟨w.heap.size, 0, none⟩ = some (atR w' w.heap.size) ∧ w'.frozen? ⟨w.heap.size, 0, none⟩ = false ∧ Scn w C G b cap l w') (first | exact hS | exact (Scn.drew (Scn.of (by assumption)) hd5).hold | exact (Scn.setR (Scn.of (by assumption)) _).hold | assumption)
      (first | (go_at_call 161; refine (l3Set_any C b 0 cap l _ (Scn.cur (Scn.of (by assumption))) (by omega) (Scn.hg (Scn.of (by assumption)))).mono ?_; rintro e w5 ⟨x2, rfl, hx2, hd5⟩))
    have hfin := (Scn.drew (Scn.of hS) hd5).fin (.slice (some ⟨b, 0, none⟩) l.length cap)
    have hcR := hfin.1
    have hbw := (Scn.of hS).below.size
    have hCb := (Scn.of hS).hC
    have hbC := (Scn.of hS).hb
    go_wp2
    refine bodyPost_ret (v := .tuple #[.agg #[.slice (some ⟨b, 0, none⟩) l.length cap], .int .i64 x1, .int .i64 x2]) (by simp [results, Try.results160, go_sem, hcR]) rfl ?_
    exact ⟨b, cap, l, x1, x2, rfl, by omega, hl, hfin.2.1, hx1, hx2, hfin.2.2⟩
  · have hcG := hs1.cG
    have hS := hs1.hold
    have hcR0 := hS.2.1
    have hfR := hS.2.2.1
    have hfin := hs1.fin (.slice (some ⟨b, 0, none⟩) l.length cap)
    have hcR := hfin.1
    have hbw := hs1.below.size
    have hCb := hs1.hC
    have hbC := hs1.hb
    clear hs1 hS
    go_wp2_with fail
    refine bodyPost_ret (v := .tuple #[.agg #[.slice (some ⟨b, 0, none⟩) l.length cap], .int .i64 x1, .int .i64 x1]) (by simp [results, Try.results160, go_sem, hcR]) rfl ?_
    exact ⟨b, cap, l, x1, x1, rfl, by omega, hl, hfin.2.1, hx1, hx1, hfin.2.2⟩
set_option maxHeartbeats 1000000 in
theorem DrawCauchyBound_any (a : Option Addr) (n cp : Nat) (w : World) (hn : n ≤ 1099511627776) (hb : BytesV w a n) :
    Calls Try.prog 78 #[.slice a n cp] w (Drawn2 w) := by
  have hb0 := hb.below ((Below.refl _ _).alloc (Nat.le_refl _) (.cells #[.slice none 0 0] 26))
  go_enter Try.func78, Try.ntmps78
  go_wp2_with fail
  generalize h0 : w.alloc (.cells #[.slice none 0 0] 26) = w0 at *
  refine (l9Two_any a n cp w0 hn hb0).mono ?_; rintro e w2 ⟨b, cap, l, x1, x2, rfl, hbb, hl, hg, hx1, hx2, hb2⟩
  have hs := Wrp0.init 26 h0 hb2 hbb hg
  have hbb2 := Nat.le_of_lt hs.hb
  clear h0 hb0 hb hb2 hg hbb
  have hlR := hs.lR
  have hcR0 := hs.cR
  have hfR := hs.fR
  have hfin := hs.fin (.slice (some ⟨b, 0, none⟩) l.length cap) (.cells #[.slice (some ⟨b, 0, none⟩) l.length cap] 26)
  have hcR := hfin.1
  clear hs
  go_wp2_with fail
  refine bodyPost_ret (v := .tuple #[.agg #[.slice (some ⟨b, 0, none⟩) l.length cap], .int .i64 x1, .int .i64 x2]) (by simp [results, Try.results78, go_sem, hcR]) rfl ?_
  exact ⟨b, cap, l, x1, x2, rfl, hbb2, hl, hfin.2.1, hx1, hx2, hfin.2.2⟩
set_option maxHeartbeats 1000000 in
theorem DrawSumDefect_any (a : Option Addr) (n cp : Nat) (w : World) (hn : n ≤ 1099511627776) (hb : BytesV w a n) :
    Calls Try.prog 85 #[.slice a n cp] w (Drawn2 w) := by
  have hb0 := hb.below ((Below.refl _ _).alloc (Nat.le_refl _) (.cells #[.slice none 0 0] 26))
  go_enter Try.func85, Try.ntmps85
  go_wp2_with fail
  generalize h0 : w.alloc (.cells #[.slice none 0 0] 26) = w0 at *
  refine (l9Two_any a n cp w0 hn hb0).mono ?_; rintro e w2 ⟨b, cap, l, x1, x2, rfl, hbb, hl, hg, hx1, hx2, hb2⟩
  have hs := Wrp0.init 26 h0 hb2 hbb hg
  have hbb2 := Nat.le_of_lt hs.hb
  clear h0 hb0 hb hb2 hg hbb
  have hlR := hs.lR
  have hcR0 := hs.cR
  have hfR := hs.fR
  have hfin := hs.fin (.slice (some ⟨b, 0, none⟩) l.length cap) (.cells #[.slice (some ⟨b, 0, none⟩) l.length cap] 26)
  have hcR := hfin.1
  clear hs
  go_wp2_with fail
  refine bodyPost_ret (v := .tuple #[.agg #[.slice (some ⟨b, 0, none⟩) l.length cap], .int .i64 x1, .int .i64 x2]) (by simp [results, Try.results85, go_sem, hcR]) rfl ?_
  exact ⟨b, cap, l, x1, x2, rfl, hbb2, hl, hfin.2.1, hx1, hx2, hfin.2.2⟩
set_option maxHeartbeats 1000000 in
theorem DrawIsKneserTight_any (a : Option Addr) (n cp : Nat) (w : World) (hn : n ≤ 1099511627776) (hb : BytesV w a n) :
    Calls Try.prog 86 #[.slice a n cp] w (Drawn2 w) := by
  have hb0 := hb.below ((Below.refl _ _).alloc (Nat.le_refl _) (.cells #[.slice none 0 0] 26))
  go_enter Try.func86, Try.ntmps86
  go_wp2_with fail
  generalize h0 : w.alloc (.cells #[.slice none 0 0] 26) = w0 at *
  refine (l9Two_any a n cp w0 hn hb0).mono ?_; rintro e w2 ⟨b, cap, l, x1, x2, rfl, hbb, hl, hg, hx1, hx2, hb2⟩
  have hs := Wrp0.init 26 h0 hb2 hbb hg
  have hbb2 := Nat.le_of_lt hs.hb
  clear h0 hb0 hb hb2 hg hbb
  have hlR := hs.lR
  have hcR0 := hs.cR
  have hfR := hs.fR
  have hfin := hs.fin (.slice (some ⟨b, 0, none⟩) l.length cap) (.cells #[.slice (some ⟨b, 0, none⟩) l.length cap] 26)
  have hcR := hfin.1
  clear hs
  go_wp2_with fail
  refine bodyPost_ret (v := .tuple #[.agg #[.slice (some ⟨b, 0, none⟩) l.length cap], .int .i64 x1, .int .i64 x2]) (by simp [results, Try.results86, go_sem, hcR]) rfl ?_
  exact ⟨b, cap, l, x1, x2, rfl, hbb2, hl, hfin.2.1, hx1, hx2, hfin.2.2⟩
set_option maxHeartbeats 1000000 in
theorem DrawKneserPair_any (a : Option Addr) (n cp : Nat) (w : World) (hn : n ≤ 1099511627776) (hb : BytesV w a n) :
    Calls Try.prog 87 #[.slice a n cp] w (Drawn2 w) := by
  have hb0 := hb.below ((Below.refl _ _).alloc (Nat.le_refl _) (.cells #[.slice none 0 0] 26))
  go_enter Try.func87, Try.ntmps87
  go_wp2_with fail
  generalize h0 : w.alloc (.cells #[.slice none 0 0] 26) = w0 at *
  refine (l9Two_any a n cp w0 hn hb0).mono ?_; rintro e w2 ⟨b, cap, l, x1, x2, rfl, hbb, hl, hg, hx1, hx2, hb2⟩
  have hs := Wrp0.init 26 h0 hb2 hbb hg
  have hbb2 := Nat.le_of_lt hs.hb
  clear h0 hb0 hb hb2 hg hbb
  have hlR := hs.lR
  have hcR0 := hs.cR
  have hfR := hs.fR
  have hfin := hs.fin (.slice (some ⟨b, 0, none⟩) l.length cap) (.cells #[.slice (some ⟨b, 0, none⟩) l.length cap] 26)
  have hcR := hfin.1
  clear hs
  go_wp2_with fail
  refine bodyPost_ret (v := .tuple #[.agg #[.slice (some ⟨b, 0, none⟩) l.length cap], .int .i64 x1, .int .i64 x2]) (by simp [results, Try.results87, go_sem, hcR]) rfl ?_
  exact ⟨b, cap, l, x1, x2, rfl, hbb2, hl, hfin.2.1, hx1, hx2, hfin.2.2⟩
end Go.Proofs.Ytpflnmcecnbilaa
