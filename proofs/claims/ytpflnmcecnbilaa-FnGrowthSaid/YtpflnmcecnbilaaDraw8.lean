/-
  Contracts of the reference's drawing: what the laws on prime orders draw.
-/
import Derived.Test.YtpflnmcecnbilaaDraw7
namespace Go.Proofs.Ytpflnmcecnbilaa
open Go.RowKit

set_option maxHeartbeats 1000000 in
theorem l10Both_any (a : Option Addr) (n cp : Nat) (w : World) (hn : n ≤ 1099511627776) (hb : BytesV w a n) :
    Calls Try.prog 129 #[.slice a n cp] w (Drawn2 w) := by
  have hb0 := hb.below ((Below.refl _ _).alloc (Nat.le_refl _) (.cells #[.slice none 0 0] 26))
  go_enter Try.func129, Try.ntmps129
  go_wp2_with fail
  generalize h0 : w.alloc (.cells #[.slice none 0 0] 26) = w0 at *
  refine (l1New_any a n cp w0 hn hb0).mono ?_; rintro e w1 ⟨C, rfl, hC, hb1, hc, -⟩
  go_wp2_with fail
  refine (l10Set_any C w1 hc).mono ?_; rintro e w2 ⟨b, cap, l, x1, x2, rfl, hbb, hl, hg, hx1, hx2, hd⟩
  have hs := Wrp0.init 26 h0 (hd.below hb1 hC) (Nat.le_trans hb1.size hbb) hg
  have hbb2 := Nat.le_of_lt hs.hb
  clear h0 hb0 hb hb1 hc hd hg hbb
  have hlR := hs.lR
  have hcR0 := hs.cR
  have hfR := hs.fR
  have hfin := hs.fin (.slice (some ⟨b, 0, none⟩) l.length cap) (.cells #[.slice (some ⟨b, 0, none⟩) l.length cap] 26)
  have hcR := hfin.1
  clear hs
  go_wp2_with fail
  refine bodyPost_ret (v := .tuple #[.agg #[.slice (some ⟨b, 0, none⟩) l.length cap], .int .i64 x1, .int .i64 x2]) (by simp [results, Try.results129, go_sem, hcR]) rfl ?_
  exact ⟨b, cap, l, x1, x2, rfl, hbb2, hl, hfin.2.1, hx1, hx2, hfin.2.2⟩
set_option maxHeartbeats 1000000 in
theorem DrawVosperCase_any (a : Option Addr) (n cp : Nat) (w : World) (hn : n ≤ 1099511627776) (hb : BytesV w a n) :
    Calls Try.prog 32 #[.slice a n cp] w (Drawn2 w) := by
  have hb0 := hb.below ((Below.refl _ _).alloc (Nat.le_refl _) (.cells #[.slice none 0 0] 26))
  go_enter Try.func32, Try.ntmps32
  go_wp2_with fail
  generalize h0 : w.alloc (.cells #[.slice none 0 0] 26) = w0 at *
  refine (l10Both_any a n cp w0 hn hb0).mono ?_; rintro e w2 ⟨b, cap, l, x1, x2, rfl, hbb, hl, hg, hx1, hx2, hb2⟩
  have hs := Wrp0.init 26 h0 hb2 hbb hg
  have hbb2 := Nat.le_of_lt hs.hb
  clear h0 hb0 hb hb2 hg hbb
  have hlR := hs.lR
  have hcR0 := hs.cR
  have hfR := hs.fR
  have hfin := hs.fin (.slice (some ⟨b, 0, none⟩) l.length cap) (.cells #[.slice (some ⟨b, 0, none⟩) l.length cap] 26)
  have hcR := hfin.1
  clear hs
  go_wp2_with fail
  refine bodyPost_ret (v := .tuple #[.agg #[.slice (some ⟨b, 0, none⟩) l.length cap], .int .i64 x1, .int .i64 x2]) (by simp [results, Try.results32, go_sem, hcR]) rfl ?_
  exact ⟨b, cap, l, x1, x2, rfl, hbb2, hl, hfin.2.1, hx1, hx2, hfin.2.2⟩
set_option maxHeartbeats 1000000 in
theorem DrawCommonDifference_any (a : Option Addr) (n cp : Nat) (w : World) (hn : n ≤ 1099511627776) (hb : BytesV w a n) :
    Calls Try.prog 42 #[.slice a n cp] w (Drawn2 w) := by
  have hb0 := hb.below ((Below.refl _ _).alloc (Nat.le_refl _) (.cells #[.slice none 0 0] 26))
  go_enter Try.func42, Try.ntmps42
  go_wp2_with fail
  generalize h0 : w.alloc (.cells #[.slice none 0 0] 26) = w0 at *
  refine (l10Both_any a n cp w0 hn hb0).mono ?_; rintro e w2 ⟨b, cap, l, x1, x2, rfl, hbb, hl, hg, hx1, hx2, hb2⟩
  have hs := Wrp0.init 26 h0 hb2 hbb hg
  have hbb2 := Nat.le_of_lt hs.hb
  clear h0 hb0 hb hb2 hg hbb
  have hlR := hs.lR
  have hcR0 := hs.cR
  have hfR := hs.fR
  have hfin := hs.fin (.slice (some ⟨b, 0, none⟩) l.length cap) (.cells #[.slice (some ⟨b, 0, none⟩) l.length cap] 26)
  have hcR := hfin.1
  clear hs
  go_wp2_with fail
  refine bodyPost_ret (v := .tuple #[.agg #[.slice (some ⟨b, 0, none⟩) l.length cap], .int .i64 x1, .int .i64 x2]) (by simp [results, Try.results42, go_sem, hcR]) rfl ?_
  exact ⟨b, cap, l, x1, x2, rfl, hbb2, hl, hfin.2.1, hx1, hx2, hfin.2.2⟩
set_option maxHeartbeats 1000000 in
theorem DrawDifferencesOf_any (a : Option Addr) (n cp : Nat) (w : World) (hn : n ≤ 1099511627776) (hb : BytesV w a n) :
    Calls Try.prog 35 #[.slice a n cp] w (Drawn1 w) := by
  have hb0 := hb.below ((Below.refl _ _).alloc (Nat.le_refl _) (.cells #[.slice none 0 0] 26))
  go_enter Try.func35, Try.ntmps35
  go_wp2_with fail
  generalize h0 : w.alloc (.cells #[.slice none 0 0] 26) = w0 at *
  refine (l10Both_any a n cp w0 hn hb0).mono ?_; rintro e w2 ⟨b, cap, l, x1, x2, rfl, hbb, hl, hg, hx1, hx2, hb2⟩
  have hs := Wrp0.init 26 h0 hb2 hbb hg
  have hbb2 := Nat.le_of_lt hs.hb
  clear h0 hb0 hb hb2 hg hbb
  have hlR := hs.lR
  have hcR0 := hs.cR
  have hfR := hs.fR
  have hfin := hs.fin (.slice (some ⟨b, 0, none⟩) l.length cap) (.cells #[.slice (some ⟨b, 0, none⟩) l.length cap] 26)
  have hcR := hfin.1
  clear hs
  go_wp2_with fail
  refine bodyPost_ret (v := .tuple #[.agg #[.slice (some ⟨b, 0, none⟩) l.length cap], .int .i64 x1]) (by simp [results, Try.results35, go_sem, hcR]) rfl ?_
  exact ⟨b, cap, l, x1, rfl, hbb2, hl, hfin.2.1, hx1, hfin.2.2⟩
set_option maxHeartbeats 1000000 in
theorem DrawIsPrimeOrder_any (a : Option Addr) (n cp : Nat) (w : World) (hn : n ≤ 1099511627776) (hb : BytesV w a n) :
    Calls Try.prog 47 #[.slice a n cp] w (Drawn0 w) := by
  have hb0 := hb.below ((Below.refl _ _).alloc (Nat.le_refl _) (.cells #[.slice none 0 0] 26))
  go_enter Try.func47, Try.ntmps47
  go_wp2_with fail
  generalize h0 : w.alloc (.cells #[.slice none 0 0] 26) = w0 at *
  refine (l1New_any a n cp w0 hn hb0).mono ?_; rintro e w1 ⟨C, rfl, hC, hb1, hc, -⟩
  go_wp2_with fail
  refine (l2Any_any C w1 hc).mono ?_; rintro e w2 ⟨b, cap, l, rfl, hbb, hl, hg, hd⟩
  have hs := Wrp0.init 26 h0 (hd.below hb1 hC) (Nat.le_trans hb1.size hbb) hg
  have hbb2 := Nat.le_of_lt hs.hb
  clear h0 hb0 hb hb1 hc hd hg hbb
  have hcR0 := hs.cR
  have hfR := hs.fR
  have hfin := hs.fin0 (.slice (some ⟨b, 0, none⟩) l.length cap)
  have hcR := hfin.1
  clear hs
  go_wp2_with fail
  refine bodyPost_ret (v := .agg #[.slice (some ⟨b, 0, none⟩) l.length cap]) (by simp [results, Try.results47, go_sem, hcR]) rfl ?_
  exact ⟨b, cap, l, rfl, hbb2, hl, hfin.2.1, hfin.2.2⟩
end Go.Proofs.Ytpflnmcecnbilaa
