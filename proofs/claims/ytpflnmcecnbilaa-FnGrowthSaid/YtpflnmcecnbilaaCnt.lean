/-
  Contracts: lists of counts, copied, looked over and added.
-/
import Derived.Test.YtpflnmcecnbilaaLaw1
import Derived.Test.YtpflnmcecnbilaaGrp
import Derived.Deep.RegionHeld3
import Derived.Deep.AppendLies
namespace Go.Proofs.Ytpflnmcecnbilaa
open Go.RowKit

theorem Growing.app {w wr w1 : World} {l l2 : List Int} {v v' : Value} (h : Growing w l v wr) (hown : w1.ownsRow w.heap.size 3 1 v' (l.length + l2.length) (l.map (Value.int .i64) ++ l2.map (Value.int .i64)))
    (hg : wr.grownBy w1 v.ownBlock) (hn : ¬ v' = .slice none 0 0) : Growing w (l ++ l2) v' w1 :=
  ⟨h.below.grown hg h.below.size (fun k hk => (h.own.lt k hk).1), by simpa using hown, hn⟩
theorem Made.growing {w wr : World} {l : List Int} {g cap : Nat} (h : Made w l g cap wr) : Growing w l (.slice (some ⟨g, 0, none⟩) l.length cap) wr := ⟨h.below, h.own, by simp⟩
theorem news_of {w : World} {b : Nat} {L : List Int} (h : GrpAt w b 0 L) : ∀ j u, (L.map (Value.int .i64))[j]? = some u → w.cell? ((⟨b, 0, none⟩ : Addr).add j) = some u := fun j u hu => by
  rw [List.getElem?_map] at hu
  rcases Nat.lt_or_ge j L.length with hj | hj
  · rw [List.getElem?_eq_getElem hj] at hu
    have hc := h.cell j hj
    have e : (⟨b, 0, none⟩ : Addr).add j = ⟨b, 0 + j, none⟩ := by unfold Addr.add; split <;> simp_all
    rw [e, hc]
    simp at hu
    rw [← hu]; simp [List.getD_eq_getElem?_getD, List.getElem?_eq_getElem hj]
  · rw [List.getElem?_eq_none hj] at hu; simp at hu
theorem one_ints (L : List Int) : ∀ u ∈ L.map (Value.int .i64), u.oneCell' = true := fun u hu => by
  obtain ⟨x, _, rfl⟩ := List.mem_map.1 hu; rfl
set_option maxHeartbeats 400000 in
theorem copyInts_any (b cap : Nat) (L : List Int) (w : World) (hL : L.length ≤ 1099511627776) (hg : GrpAt w b 0 L) :
    Calls Try.prog 191 #[.slice (some ⟨b, 0, none⟩) L.length cap] w (RetInts w L) := by
  obtain ⟨i0, hi, hz0, hz1, hz2⟩ := info_parts info_int
  have hgr := Growing.start' (w := w) #[] rfl
  have hg1 := hg.alloc (.cells #[] 3)
  have hown := hgr.own
  go_enter Try.func191, Try.ntmps191
  go_wp2_with (at_builtin; refine wpList_append_own _ rfl _ _ 24 rfl w.heap.size 3 i0 (.int .i64 0) 1 8 Try.underlying24 hi hz0 hz1 hz2 rfl (by decide) _ _ _ rfl hown ⟨b, 0, none⟩ L.length cap (L.map (Value.int .i64)) rfl ?c0 ?c1 ?c2 ?c3 ?c4 ?c5 ?_)
  case c0 => simp
  case c1 => exact news_of hg1
  case c2 => exact one_ints L
  case c3 => simp only [maxLen]; simp; omega
  case c4 => simp; omega
  case c5 => simp
  intro v' w1 hown' hgrow hnil
  have hp := hid (hgr.app (l2 := L) (by simpa using hown') hgrow hnil)
  clear hown hown' hgrow hnil hgr hg1
  go_wp2
  go_ret
  have h2 := hp.out.ret
  rwa [List.nil_append] at h2
/-- all numbers lie between two bounds -/
def allIn (lo hi : Int) (P : List Int) : Bool := P.all fun x => inB x lo hi
theorem allIn_no {lo hi : Int} {P : List Int} {k : Nat} (hk : k < P.length) (h : inB (P.getD k 0) lo hi = false) : allIn lo hi P = false := by
  rw [Bool.eq_false_iff]; intro hc
  simp only [allIn, List.all_eq_true] at hc
  rw [hc _ (getD_mem P 0 k hk)] at h; cases h
theorem allIn_end {lo hi : Int} {P : List Int} (h : ∀ k, k < P.length → inB (P.getD k 0) lo hi = true) : allIn lo hi P = true := by
  simp only [allIn, List.all_eq_true]
  intro y hy
  obtain ⟨i, hi', rfl⟩ := List.mem_iff_getElem.1 hy
  have := h i hi'
  simpa [List.getD_eq_getElem?_getD, List.getElem?_eq_getElem hi'] using this
theorem allIn_app (lo hi : Int) (P Q : List Int) : allIn lo hi (P ++ Q) = (allIn lo hi P && allIn lo hi Q) := by simp [allIn]
theorem allIn_at {lo hi : Int} {P : List Int} {k : Nat} (h : allIn lo hi P = true) (hk : k < P.length) : lo ≤ P.getD k 0 ∧ P.getD k 0 ≤ hi := by
  simp only [allIn, List.all_eq_true] at h
  exact inB_iff.1 (h _ (getD_mem P 0 k hk))
def lenOk (P : List Int) : Bool := inB (P.length : Int) 1 24
def cntOk (P Q : List Int) : Bool := allIn (-1000) 1000 P && allIn (-1000) 1000 Q && decide (P.length = Q.length) && lenOk P
end Go.Proofs.Ytpflnmcecnbilaa
