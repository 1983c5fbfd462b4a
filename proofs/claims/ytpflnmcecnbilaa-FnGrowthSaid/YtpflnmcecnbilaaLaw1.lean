/-
  Contracts of the laws' own helpers: copies, comparisons, sizes, marks.
-/
import Derived.Test.YtpflnmcecnbilaaMem
import Derived.BigQuiet
import Derived.Deep.QuietTactic
namespace Go.Proofs.Ytpflnmcecnbilaa
open Go.RowKit

/-- a slice of integers that came in: perhaps nil, perhaps empty -/
def RowV (w : World) (a : Option Addr) (l : List Int) : Prop := l.length = 0 ∨ ∃ b off, a = some ⟨b, off, none⟩ ∧ GrpAt w b off l
theorem RowV.below {w w' : World} {a : Option Addr} {l : List Int} (h : RowV w a l) (hb : Below w.heap.size w w') : RowV w' a l := by
  rcases h with h | ⟨b, off, ha, hg⟩
  · exact .inl h
  · exact .inr ⟨b, off, ha, hg.below hb⟩
theorem GrpAt.rowV {w : World} {b off : Nat} {l : List Int} (h : GrpAt w b off l) : RowV w (some ⟨b, off, none⟩) l := .inr ⟨b, off, rfl, h⟩
/-- a list copied so far -/
theorem copy_step (l : List Int) (k : Nat) (h : k < l.length) : (l.take k ++ List.replicate (l.length - k) 0).set k (l.getD k 0) = l.take (k + 1) ++ List.replicate (l.length - (k + 1)) 0 := by
  rw [List.set_append_right _ _ (by simp; omega)]
  rw [take_snoc l 0 k h, List.append_assoc]
  congr 1
  rw [show l.length - k = (l.length - (k + 1)) + 1 from by omega, List.replicate_succ]
  simp [Nat.min_eq_left (Nat.le_of_lt h)]
theorem copy_len (l : List Int) (k : Nat) (h : k ≤ l.length) : (l.take k ++ List.replicate (l.length - k) 0).length = l.length := by simp; omega
set_option maxHeartbeats 400000 in
theorem toIntS_any (a : Option Addr) (cap : Nat) (l : List Int) (w : World) (hl : l.length ≤ 1048576) (hr : RowV w a l) :
    Calls Try.prog 148 #[.slice a l.length cap] w (RetInts w l) := by
  obtain ⟨i0, hi, hz0, hz1, hz2⟩ := info_parts info_int
  go_enter Try.func148, Try.ntmps148
  go_wp2_with (refine wpList_make_full _ rfl _ _ 24 rfl w.heap.size 3 i0 (.int .i64 0) 1 Try.underlying24 hi hz0 hz1 .i64 .i64 _ _ l.length rfl rfl rfl rfl ?c2 ?c3 ?c4 ?_)
  case c2 => rw [hz2]; omega
  case c3 => simp only [maxLen]; omega
  case c4 => exact Nat.le_refl _
  intro w1 hown hgr
  have hm := Made.make (Below.refl _ _) hown hgr
  have hr1 := hr.below hm.below
  have hrb := hid hr
  clear hown hgr
  go_wp2
  go_loopw [4] (fun i wr => ∃ k : Nat, i = .int .i64 k ∧ k ≤ l.length ∧ Made w (l.take k ++ List.replicate (l.length - k) 0) w.heap.size l.length wr ∧ RowV wr a l) (fun i _ => l.length - (intOf i).toNat)
  case atStart => exact ⟨0, rfl, by omega, by simpa using hm, hr1⟩
  case round =>
    rename_i wr
    obtain ⟨k, rfl, hk, hmk, hrk⟩ := hrel
    clear hm hr1
    by_cases hlt : k < l.length
    · rcases hrk with h0 | ⟨b, off, rfl, hg⟩
      · omega
      · have hck := hg.cell k hlt
        have hlen := copy_len l k hk
        have hcw := hmk.cell k (by omega)
        have hfz := hmk.frozen k
        have hb : b ≠ w.heap.size := by
          rcases hrb.out with h0 | ⟨b', off', e, hg'⟩
          · omega
          · simp at e; obtain ⟨rfl, rfl⟩ := e; have := hg'.blt; omega
        have hm' := hmk.store k (l.getD k 0)
        rw [copy_step l k hlt] at hm'
        have hg2 := hg.setCell (j := k) hb (.int .i64 (l.getD k 0))
        clear hlen
        generalize l.getD k 0 = x at *
        generalize (l.take k ++ List.replicate (l.length - k) 0).getD k 0 = y at *
        go_wp2
        go_roundw
        case rel => exact ⟨k + 1, by go_num, by omega, hm', .inr ⟨b, off, rfl, hg2⟩⟩
        case measure => simp [intOf]; omega
    · have hend : Hid (l.take k ++ List.replicate (l.length - k) 0 = l) := by
        unfold Hid; rw [List.take_of_length_le (by omega), show l.length - k = 0 from by omega]; simp
      rw [hend.out] at hmk
      go_wp2
      go_ret
      exact ⟨_, _, rfl, hmk⟩
/-- what is left of the size that is read -/
def szv (n : Nat) : Int := if n ≤ 1048576 then 1048576 - (n : Int) else -1
theorem szv_yes {n : Nat} (h : n ≤ 1048576) : 0 ≤ szv n := by unfold szv; rw [if_pos h]; omega
theorem szv_no {n : Nat} (h : ¬ n ≤ 1048576) : szv n < 0 := by unfold szv; rw [if_neg h]; omega
set_option maxHeartbeats 400000 in
theorem szIntS_any (a : Option Addr) (n cap : Nat) (w : World) (hn : n ≤ 9223372036854775807) :
    Calls Try.prog 147 #[.slice a n cap, .int .i64 1048576] w fun e w' => e = .returned (.int .i64 (szv n)) ∧ w = w' := by
  by_cases h : n ≤ 1048576
  · have hv : Hid (szv n = 1048576 - (n : Int)) := by unfold Hid szv; rw [if_pos h]
    go_enter Try.func147, Try.ntmps147
    go_wp2
    go_ret
    exact ⟨ret_i hv.out.symm, rfl⟩
  · have hv : Hid (szv n = -1) := by unfold Hid szv; rw [if_neg h]
    go_enter Try.func147, Try.ntmps147
    go_wp2
    go_ret
    exact ⟨ret_i hv.out.symm, rfl⟩
set_option maxHeartbeats 400000 in
theorem szGroup_any (a : Option Addr) (n cap : Nat) (w : World) (hn : n ≤ 9223372036854775807) :
    Calls Try.prog 53 #[.agg #[.slice a n cap], .int .i64 1048576] w fun e w' => e = .returned (.int .i64 (szv n)) ∧ Below w.heap.size w w' := by
  by_cases h : n ≤ 1048576
  · have hv := szv_yes h
    go_enter Try.func53, Try.ntmps53
    go_wp2_with fail
    refine (szIntS_any _ _ _ _ hn).mono ?_; rintro e w1 ⟨rfl, rfl⟩
    go_wp2
    go_ret
    exact ⟨rfl, (Below.refl _ _).alloc (Nat.le_refl _) _⟩
  · have hv := szv_no h
    have he : Hid (szv n = -1) := by unfold Hid szv; rw [if_neg h]
    go_enter Try.func53, Try.ntmps53
    go_wp2_with fail
    refine (szIntS_any _ _ _ _ hn).mono ?_; rintro e w1 ⟨rfl, rfl⟩
    go_wp2
    go_ret
    exact ⟨ret_i (by rw [he.out]), (Below.refl _ _).alloc (Nat.le_refl _) _⟩
/-- the function returns a group over these integers, in new memory -/
def RetGrp (w : World) (l : List Int) (e : Ending) (w' : World) : Prop := ∃ g cap, e = .returned (.agg #[.slice (some ⟨g, 0, none⟩) l.length cap]) ∧ Made w l g cap w'
theorem Made.since {w wr w1 : World} {l : List Int} {g cap : Nat} (h : Made wr l g cap w1) (hb : Below w.heap.size w wr) : Made w l g cap w1 := by
  have hs := hb.size
  refine ⟨hb.trans (h.below.mono hs), by have := h.base; omega, h.own.1, ?_⟩
  rcases h.own.2 with ⟨h', _⟩ | ⟨g', cap', cur, h', hb', r⟩
  · simp at h'
  · exact .inr ⟨g', cap', cur, h', by omega, r⟩
theorem RetInts.since {w wr : World} {l : List Int} {e : Ending} {w1 : World} (h : RetInts wr l e w1) (hb : Below w.heap.size w wr) : RetInts w l e w1 := by
  obtain ⟨g, cap, he, hm⟩ := h
  exact ⟨g, cap, he, hm.since hb⟩
set_option maxHeartbeats 400000 in
theorem toGroup_any (a : Option Addr) (cap : Nat) (l : List Int) (w : World) (hl : l.length ≤ 1048576) (hr : RowV w a l) :
    Calls Try.prog 55 #[.agg #[.slice a l.length cap]] w (RetGrp w l) := by
  go_enter Try.func55, Try.ntmps55
  go_wp2_with fail
  refine (toIntS_any _ _ _ _ hl (hr.below ?hb)).mono ?_
  case hb => exact (((Below.refl _ _).alloc (Nat.le_refl _) _).alloc (by simp) _).alloc (by simp; omega) _
  rintro e w1 ⟨g, gc, rfl, hmade⟩
  have hb1 := hmade.below
  have hsz : w.heap.size + 1 + 1 < w1.heap.size := by have := hb1.size; simp at this; omega
  have hc2 : w1.cell? ⟨w.heap.size + 1 + 1, 0, none⟩ = some (.slice none 0 0) := by
    rw [hb1.cell (by simp), World.cell?_alloc_at _ _ _ _ (by simp)]; rfl
  have hf2 : w1.frozen? ⟨w.heap.size + 1 + 1, 0, none⟩ = false := by
    rw [hb1.frozen (by simp), World.frozen?_alloc_at _ _ _ _ (by simp)]
  have hc1 : w1.cell? ⟨w.heap.size + 1, 0, none⟩ = some (.slice none 0 0) := by
    rw [hb1.cell (by simp), World.cell?_alloc_past _ _ _ (by simp), World.cell?_alloc_at _ _ _ _ (by simp)]; rfl
  have hf1 : w1.frozen? ⟨w.heap.size + 1, 0, none⟩ = false := by
    rw [hb1.frozen (by simp), World.frozen?_alloc_past _ _ _ (by simp), World.frozen?_alloc_at _ _ _ _ (by simp)]
  have hgb := hmade.base
  have hgb' : w.heap.size + 1 + 1 + 1 ≤ g := by simpa using hgb
  clear hgb
  have hm2 := hid (((hmade.since (w := w) ((((Below.refl _ _).alloc (Nat.le_refl _) _).alloc (by simp) _).alloc (by simp; omega) _)).other (b := w.heap.size + 1 + 1) (by omega) (by omega) 0 (.slice (some ⟨g, 0, none⟩) l.length gc)).other (b := w.heap.size + 1) (by omega) (by omega) 0 (.slice (some ⟨g, 0, none⟩) l.length gc))
  clear hmade hb1
  go_wp2
  exact bodyPost_ret (v := .agg #[.slice (some ⟨g, 0, none⟩) l.length gc]) (by simp [results, Try.results55, go_sem, hc1]) rfl ⟨g, gc, rfl, hm2⟩
theorem list_eq_of {l1 l2 : List Int} (hl : l1.length = l2.length) (h : ∀ i, i < l1.length → l1.getD i 0 = l2.getD i 0) : l1 = l2 := by
  apply List.ext_getElem hl
  intro i h1 h2
  have := h i h1
  simpa [List.getD_eq_getElem?_getD, List.getElem?_eq_getElem h1, List.getElem?_eq_getElem h2] using this
/-- two lists are equal, closed to simp -/
def eqL (l1 l2 : List Int) : Bool := decide (l1 = l2)
theorem eqL_refl (l : List Int) : eqL l l = true := by simp [eqL]
theorem eqL_len {l1 l2 : List Int} (h : ¬ l1.length = l2.length) : eqL l1 l2 = false := by simp [eqL]; intro e; exact h (by rw [e])
theorem eqL_ne {l1 l2 : List Int} {k : Nat} (h : ¬ l1.getD k 0 = l2.getD k 0) : eqL l1 l2 = false := by simp only [eqL, decide_eq_false_iff_not]; intro e; exact h (by rw [e])
set_option maxHeartbeats 400000 in
theorem eqIntS_any (b1 o1 c1 b2 o2 c2 : Nat) (l1 l2 : List Int) (w : World) (h1 : l1.length ≤ 1048576) (h2 : l2.length ≤ 1048576) (hg1 : GrpAt w b1 o1 l1) (hg2 : GrpAt w b2 o2 l2) :
    Calls Try.prog 151 #[.slice (some ⟨b1, o1, none⟩) l1.length c1, .slice (some ⟨b2, o2, none⟩) l2.length c2] w fun e w' => e = .returned (.bool (eqL l1 l2)) ∧ Below w.heap.size w w' := by
  by_cases hl : l1.length = l2.length
  · have hne : ((l1.length : Int) != (l2.length : Int)) = false := by simp [hl]
    have hle : l1.length ≤ l2.length := by omega
    have hl' := hid hl
    clear hl
    go_enter Try.func151, Try.ntmps151
    go_wp2
    go_loopw [5] (fun i wr => ∃ k : Nat, i = .int .i64 k ∧ k ≤ l1.length ∧ Hid (∀ j, j < k → l1.getD j 0 = l2.getD j 0) ∧ Below w.heap.size w wr) (fun i _ => l1.length - (intOf i).toNat)
    case atStart => exact ⟨0, rfl, by omega, fun j hj => by omega, Below.refl _ _⟩
    case round =>
      rename_i wr
      obtain ⟨k, rfl, hk, he, hb⟩ := hrel
      by_cases hlt : k < l1.length
      · have hck1 := (hg1.below hb).cell k hlt
        have hck2 := (hg2.below hb).cell k (by omega)
        have hi1 : (k : Int) < (l1.length : Int) := by omega
        have hi2 : (k : Int) < (l2.length : Int) := by omega
        by_cases hx : l1.getD k 0 = l2.getD k 0
        · have he' : Hid (∀ j, j < k + 1 → l1.getD j 0 = l2.getD j 0) := fun j hj => by
            by_cases e : j = k
            · rw [e]; exact hx
            · exact he.out j (by omega)
          have hxb : (l1.getD k 0 != l2.getD k 0) = false := by rw [hx]; simp
          clear hx
          generalize l1.getD k 0 = x1 at *
          generalize l2.getD k 0 = x2 at *
          go_wp2
          go_quiet (fail)
          go_wp2
          go_roundw
          case rel => exact ⟨k + 1, by go_num, by omega, he', hb.trans ⟨rfl, rfl, rfl, Nat.le_refl _, fun _ _ => rfl⟩⟩
          case measure => simp [intOf]; omega
        · have hxb : (l1.getD k 0 != l2.getD k 0) = true := by rw [bne_iff_ne]; exact hx
          have hf := hid (eqL_ne hx)
          clear hx
          generalize l1.getD k 0 = x1 at *
          generalize l2.getD k 0 = x2 at *
          go_wp2
          go_quiet (fail)
          go_wp2
          go_ret
          exact ⟨ret_b (by rw [hf.out]), hb.trans ⟨rfl, rfl, rfl, Nat.le_refl _, fun _ _ => rfl⟩⟩
      · have ht : Hid (eqL l1 l2 = true) := by
          unfold Hid; rw [list_eq_of hl'.out (fun i hi => he.out i (by omega))]; exact eqL_refl _
        go_wp2
        go_ret
        exact ⟨ret_b (by rw [ht.out]), hb⟩
  · have hne : ((l1.length : Int) != (l2.length : Int)) = true := by rw [bne_iff_ne]; omega
    have hf := hid (eqL_len hl)
    go_enter Try.func151, Try.ntmps151
    go_wp2
    go_ret
    exact ⟨ret_b (by rw [hf.out]), Below.refl _ _⟩
end Go.Proofs.Ytpflnmcecnbilaa
