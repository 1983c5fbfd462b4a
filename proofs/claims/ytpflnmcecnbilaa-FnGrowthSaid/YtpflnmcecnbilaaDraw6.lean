/-
  Contracts of the reference's drawing: ratios; groups alone.
-/
import Derived.Test.YtpflnmcecnbilaaDraw4
namespace Go.Proofs.Ytpflnmcecnbilaa
open Go.RowKit

def DrawnI4 (w : World) (e : Ending) (w' : World) : Prop := ∃ x1 x2 x3 x4, e = .returned (.tuple #[.int .i64 x1, .int .i64 x2, .int .i64 x3, .int .i64 x4]) ∧ I64 x1 ∧ I64 x2 ∧ I64 x3 ∧ I64 x4 ∧ Below w.heap.size w w'
theorem pick6 : ∀ k, k < 6 → I64 (([1, 2, 3, 4, 1000001, -9223372036854775808] : List Int).getD k 0) := fun k hk => by
  have h : k = 0 ∨ k = 1 ∨ k = 2 ∨ k = 3 ∨ k = 4 ∨ k = 5 := by omega
  rcases h with rfl | rfl | rfl | rfl | rfl | rfl <;> exact ⟨by decide, by decide⟩
set_option maxHeartbeats 1000000 in
theorem DrawCompareRatios_any (a : Option Addr) (n cp : Nat) (w : World) (hn : n ≤ 1099511627776) (hb : BytesV w a n) :
    Calls Try.prog 24 #[.slice a n cp] w (DrawnI4 w) := by
  go_enter Try.func24, Try.ntmps24
  go_wp2_with fail
  refine (l1New_any a n cp w hn hb).mono ?_; rintro e w2 ⟨C, rfl, hC, hb2, hc, hcd⟩
  clear hcd hb
  go_wp2_with fail
  refine (l1Below_any C 6 w2 (by omega) (by omega) hc).mono ?_; rintro e w3 ⟨z1, hz1, rfl, hd3⟩
  go_wp2_with fail
  refine (l1Below_any C 5 w3 (by omega) (by omega) hd3.cur).mono ?_; rintro e w4 ⟨z2, hz2, rfl, hd4⟩
  have hd5 := (hd3.trans hd4).alloc (.cells #[.int .i64 1, .int .i64 2, .int .i64 3, .int .i64 4, .int .i64 1000001, .int .i64 (-9223372036854775808)] 3)
  have hgp := grp_new w4 [1, 2, 3, 4, 1000001, -9223372036854775808] 3
  have hlt := (hd3.trans hd4).cur.lt
  clear hd3 hd4 hc
  go_wp2_with fail
  refine (l1PickInt_any C w4.heap.size 6 [1, 2, 3, 4, 1000001, -9223372036854775808] _ (by simp) (by simp) hd5.cur hgp (by omega)).mono ?_; rintro e w6 ⟨k, hk, rfl, hd6⟩
  have hx := pick6 k (by simpa using hk)
  generalize ([1, 2, 3, 4, 1000001, -9223372036854775808] : List Int).getD k 0 = x at *
  have hd7 := hd5.trans hd6
  clear hd5 hd6 hgp hk
  go_wp2_with fail
  refine (l1Below_any C 6 w6 (by omega) (by omega) hd7.cur).mono ?_; rintro e w8 ⟨z3, hz3, rfl, hd8⟩
  have hd9 := hd7.trans hd8
  clear hd7 hd8
  go_wp2_with fail
  refine bodyPost_ret (v := .tuple #[.int .i64 z1, .int .i64 z2, .int .i64 z3, .int .i64 x]) (by simp [results, Try.results24, go_sem]) rfl ?_
  exact ⟨z1, z2, z3, x, rfl, ⟨by omega, by omega⟩, ⟨by omega, by omega⟩, ⟨by omega, by omega⟩, hx, hd9.below hb2 hC⟩
end Go.Proofs.Ytpflnmcecnbilaa
