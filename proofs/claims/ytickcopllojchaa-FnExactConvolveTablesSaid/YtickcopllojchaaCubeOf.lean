/-
  Contracts: the sums of a base and the elements of each set of steps.
-/
import Derived.Test.YtickcopllojchaaComb
import Derived.Test.YtickcopllojchaaSum
import Derived.Test.YtickcopllojchaaLaw1
import Derived.Deep.RegionHeld3
namespace Go.Proofs.Ytickcopllojchaa
open Go.RowKit

/-- the cube over the steps before place k -/
def cubTo (m : List Nat) (x : Nat) (L : List Int) : Nat → Nat
  | 0 => pw x
  | k + 1 => cubTo m x L k ||| shiftN m (cubTo m x L k) (L.getD k 0).toNat
theorem cubTo_lt {m : List Nat} (hm : Ok m) {x : Nat} (hx : x < prodN m) (L : List Int) : ∀ k, cubTo m x L k < 16777216
  | 0 => by have h := hm.ord; exact Nat.lt_of_lt_of_le (Nat.pow_lt_pow_right (by omega) (by omega) : 2 ^ x < 2 ^ 24) (Nat.le_refl _)
  | k + 1 => Nat.or_lt_two_pow (n := 24) (cubTo_lt hm hx L k) (shiftN_lt hm _ _)
def cubOk (l : List Int) (x : Int) (L : List Int) : Bool := isEl l x && decide (L.length ≤ 5) && L.all (isEl l)
def cubF (l : List Int) (x : Int) (L : List Int) : Int := if cubOk l x L = true then (cubTo (toN l) x.toNat L L.length : Nat) else 0
theorem cubF_yes {m : List Nat} {x : Nat} {L : List Int} (h : cubOk (cst m) x L = true) : cubF (cst m) x L = (cubTo m x L L.length : Nat) := by
  unfold cubF; rw [if_pos h, toN_cst, Int.toNat_natCast]
theorem cubF_no {l : List Int} {x : Int} {L : List Int} (h : cubOk l x L = false) : cubF l x L = 0 := by unfold cubF; rw [if_neg (by simp [h])]
theorem cubOk_no1 {l : List Int} {x : Int} {L : List Int} (h : isEl l x = false) : cubOk l x L = false := by unfold cubOk; rw [h]; rfl
theorem cubOk_no2 {l : List Int} {x : Int} {L : List Int} (h : ¬ L.length ≤ 5) : cubOk l x L = false := by unfold cubOk; simp [h]
theorem cubOk_no3 {l : List Int} {x : Int} {L : List Int} {k : Nat} (hk : k < L.length) (h : isEl l (L.getD k 0) = false) : cubOk l x L = false := by
  rw [Bool.eq_false_iff]; intro hc
  simp only [cubOk, Bool.and_eq_true, List.all_eq_true] at hc
  rw [hc.2 _ (getD_mem L 0 k hk)] at h; cases h
theorem cubOk_end {l : List Int} {x : Int} {L : List Int} (h1 : isEl l x = true) (h2 : L.length ≤ 5) (h : ∀ k, k < L.length → isEl l (L.getD k 0) = true) : cubOk l x L = true := by
  simp only [cubOk, Bool.and_eq_true, List.all_eq_true, h1, decide_eq_true_eq]
  refine ⟨⟨trivial, h2⟩, fun y hy => ?_⟩
  obtain ⟨i, hi, rfl⟩ := List.mem_iff_getElem.1 hy
  have := h i hi
  simpa [List.getD_eq_getElem?_getD, List.getElem?_eq_getElem hi] using this
theorem isEl_of {m : List Nat} (hm : Ok m) {x : Int} (h : isEl (cst m) x = true) : ∃ X : Nat, x = X ∧ X < prodN m := by
  rw [isEl_yes hm] at h
  simp only [Bool.and_eq_true, decide_eq_true_eq] at h
  exact ⟨x.toNat, by omega, by omega⟩
theorem ret_ibC {a a' : Int} {b b' : Bool} (h1 : a = a') (h2 : b = b') : Ending.returned (.tuple #[.int .i64 a, .bool b]) = .returned (.tuple #[.int .i64 a', .bool b']) := by rw [h1, h2]
/-- the world with a boxed group and another slice -/
theorem StL.init2 {w : World} {b off cap b2 : Nat} {l L : List Int} (t : TypeId) (hg : GrpAt w b off l) (hg2 : GrpAt w b2 0 L) : StL w b off cap l b2 L (w.alloc (.cells #[.slice (some ⟨b, off, none⟩) l.length cap] t)) := ⟨St.init cap t hg, hg2.alloc _⟩
theorem StL.keepL {w wr w1 : World} {b off cap b2 k : Nat} {l L : List Int} {y : Int} (h : wr.cell? ⟨w.heap.size, 0, none⟩ = some (.slice (some ⟨b, off, none⟩) l.length cap) ∧ wr.cell? ⟨b2, k, none⟩ = some (.int .i64 y) ∧ StL w b off cap l b2 L wr) (hk : k < L.length) (hy : Hid (L.getD k 0 = y)) (hb : Below wr.heap.size wr w1) :
    w1.cell? ⟨w.heap.size, 0, none⟩ = some (.slice (some ⟨b, off, none⟩) l.length cap) ∧ w1.cell? ⟨b2, k, none⟩ = some (.int .i64 y) ∧ StL w b off cap l b2 L w1 := by
  have h' := h.2.2.step hb
  exact ⟨h'.st.box, by rw [h'.lst.cell0 k hk, hy.out], h'⟩
theorem StL.holdL {w wr : World} {b off cap b2 k : Nat} {l L : List Int} {y : Int} (h : StL w b off cap l b2 L wr) (hk : k < L.length) (hy : Hid (L.getD k 0 = y)) :
    wr.cell? ⟨w.heap.size, 0, none⟩ = some (.slice (some ⟨b, off, none⟩) l.length cap) ∧ wr.cell? ⟨b2, k, none⟩ = some (.int .i64 y) ∧ StL w b off cap l b2 L wr := ⟨h.st.box, by rw [h.lst.cell0 k hk, hy.out], h⟩
theorem StL.grpL {w wr : World} {b off cap b2 k : Nat} {l L : List Int} {y : Int} (h : wr.cell? ⟨w.heap.size, 0, none⟩ = some (.slice (some ⟨b, off, none⟩) l.length cap) ∧ wr.cell? ⟨b2, k, none⟩ = some (.int .i64 y) ∧ StL w b off cap l b2 L wr) : GrpAt wr b off l := h.2.2.st.grp
set_option maxHeartbeats 1000000 in
theorem cubeOf_any (b off cap : Nat) (l : List Int) (x : Int) (b2 cap2 : Nat) (L : List Int) (w : World) (hl : l.length ≤ 1099511627776) (hL : L.length ≤ 1099511627776) (hg : GrpAt w b off l) (hg2 : GrpAt w b2 0 L) :
    Calls Try.prog 26 #[.agg #[.slice (some ⟨b, off, none⟩) l.length cap], .int .i64 x, .slice (some ⟨b2, 0, none⟩) L.length cap2] w fun e w' => e = .returned (.tuple #[.int .i64 (cubF l x L), .bool (cubOk l x L)]) ∧ Below w.heap.size w w' := by
  have hst := StL.init2 (cap := cap) 32 hg hg2
  clear hg hg2
  by_cases hx : isEl l x = true
  · obtain ⟨m, X, hm, rfl, rfl, hX⟩ := isEl_iff.1 hx
    by_cases h5 : L.length ≤ 5
    · have hord := hm.ord
      have hsh := hid (shl1 (x := X) (by omega))
      have hclt : Hid (∀ k, cubTo m X L k < 16777216) := cubTo_lt hm hX L
      go_enter Try.func26, Try.ntmps26
      go_wp2_with fail
      refine (has_any _ _ _ _ _ _ hl hst.st.grp).mono ?_; rintro e w1 ⟨rfl, hb1⟩; rw [hx]; have hst1 := hst.step hb1
      clear hst hb1
      go_wp2
      go_loopw [8, 24] (fun o i wr => ∃ k : Nat, i = .int .i64 k ∧ k ≤ L.length ∧ o = .int .i64 (cubTo m X L k : Nat) ∧ Hid (∀ j, j < k → isEl (cst m) (L.getD j 0) = true) ∧ StL w b off cap (cst m) b2 L wr) (fun _ i _ => L.length - (intOf i).toNat)
      case atStart => exact ⟨0, rfl, by omega, val_i hsh.out, fun j hj => by omega, hst1⟩
      case round =>
        clear hst1
        rename_i wr
        obtain ⟨k, rfl, hk, rfl, hall, hstr⟩ := hrel
        have hbox := hstr.st.box
        by_cases hlt : k < L.length
        · have hck := hstr.lst.cell0 k hlt
          by_cases he : isEl (cst m) (L.getD k 0) = true
          · obtain ⟨D, hD, hDn⟩ := isEl_of hm he
            have hall' : Hid (∀ j, j < k + 1 → isEl (cst m) (L.getD j 0) = true) := fun j hj => by
              by_cases e : j = k
              · rw [e]; exact he
              · exact hall.out j (by omega)
            have hc1 := hclt.out k
            have hc2 := hclt.out (k + 1)
            have hnx : Hid (cubTo m X L (k + 1) = cubTo m X L k ||| shiftN m (cubTo m X L k) D) := by unfold Hid; rw [cubTo, hD]; rfl
            rw [hD] at hck he
            have hslt := shiftN_lt hm (cubTo m X L k) D
            have hor := bits_or_nat (cubTo m X L k) (shiftN m (cubTo m X L k) D) (by omega) (by omega)
            clear hD
            generalize cubTo m X L k = T at *
            go_wp2_with fail
            refine (has_any _ _ _ _ _ _ hl hstr.st.grp).mono ?_; rintro e w2 ⟨rfl, hb2⟩; rw [he]; have hst2 := hstr.step hb2; have hbox2 := hst2.st.box
            clear hstr hb2 hbox
            go_wp2_with fail
            refine (shift_any _ _ _ _ _ _ _ hm (by omega) (by omega) hst2.st.grp).mono ?_; rintro e w3 ⟨rfl, hb3⟩; have hst3 := hst2.step hb3
            clear hst2 hb3 hbox2
            go_wp2
            go_roundw
            case rel => exact ⟨k + 1, by go_num, by omega, by rw [hnx.out], hall', hst3⟩
            case measure => simp [intOf]; omega
          · have he' : isEl (cst m) (L.getD k 0) = false := by simpa using he
            have hno := hid (cubOk_no3 (x := (X : Int)) hlt he')
            have hr := hid (cubF_no hno.out)
            clear he
            generalize L.getD k 0 = y at *
            go_wp2_with fail
            refine (has_any _ _ _ _ _ _ hl hstr.st.grp).mono ?_; rintro e w2 ⟨rfl, hb2⟩; rw [he']; have hst2 := hstr.step hb2
            go_wp2
            go_ret2
            exact ⟨ret_ibC hr.out.symm hno.out.symm, hst2.st.below⟩
        · have hyes := hid (cubOk_end hx h5 (fun j hj => hall.out j (by omega)))
          have hr := hid (cubF_yes hyes.out)
          have hkl : Hid (cubTo m X L k = cubTo m X L L.length) := by rw [show k = L.length from by omega]; rfl
          generalize cubTo m X L k = T at *
          go_wp2
          go_ret2
          exact ⟨ret_ibC (by rw [hr.out, hkl.out]) hyes.out.symm, hstr.st.below⟩
    · have hno := hid (cubOk_no2 (l := cst m) (x := (X : Int)) h5)
      have hr := hid (cubF_no hno.out)
      go_enter Try.func26, Try.ntmps26
      go_wp2_with fail
      refine (has_any _ _ _ _ _ _ hl hst.st.grp).mono ?_; rintro e w1 ⟨rfl, hb1⟩; rw [hx]; have hst1 := hst.step hb1
      go_wp2
      go_ret2
      exact ⟨ret_ibC hr.out.symm hno.out.symm, hst1.st.below⟩
  · have hx' : isEl l x = false := by simpa using hx
    have hno := hid (cubOk_no1 (L := L) hx')
    have hr := hid (cubF_no hno.out)
    clear hx
    go_enter Try.func26, Try.ntmps26
    go_wp2_with fail
    refine (has_any _ _ _ _ _ _ hl hst.st.grp).mono ?_; rintro e w1 ⟨rfl, hb1⟩; rw [hx']; have hst1 := hst.step hb1
    go_wp2
    go_ret2
    exact ⟨ret_ibC hr.out.symm hno.out.symm, hst1.st.below⟩
set_option maxHeartbeats 1000000 in
theorem sCubeOf_any (b off cap : Nat) (l : List Int) (x : Int) (b2 cap2 : Nat) (L : List Int) (w : World) (hl : l.length ≤ 1099511627776) (hL : L.length ≤ 1099511627776) (hg : GrpAt w b off l) (hg2 : GrpAt w b2 0 L) :
    Calls Try.prog 24 #[.agg #[.slice (some ⟨b, off, none⟩) l.length cap], .int .i64 x, .slice (some ⟨b2, 0, none⟩) L.length cap2] w fun e w' => e = .returned (.tuple #[.int .i64 (cubF l x L), .bool (cubOk l x L)]) ∧ Below w.heap.size w w' := by
  have hst := StL.init2 (cap := cap) 32 hg hg2
  clear hg hg2
  by_cases hx : isEl l x = true
  · obtain ⟨m, X, hm, rfl, rfl, hX⟩ := isEl_iff.1 hx
    by_cases h5 : L.length ≤ 5
    · have hord := hm.ord
      have hsh := hid (shl1 (x := X) (by omega))
      have hclt : Hid (∀ k, cubTo m X L k < 16777216) := cubTo_lt hm hX L
      go_enter Try.func24, Try.ntmps24
      go_wp2_with fail
      refine (l2Is_any _ _ _ _ _ _ hl hst.st.grp).mono ?_; rintro e w1 ⟨rfl, hb1⟩; rw [hx]; have hst1 := hst.step hb1
      clear hst hb1
      go_wp2
      go_loopw [8, 9] (fun o i wr => ∃ k : Nat, i = .int .i64 k ∧ k ≤ L.length ∧ o = .int .i64 (cubTo m X L k : Nat) ∧ Hid (∀ j, j < k → isEl (cst m) (L.getD j 0) = true) ∧ StL w b off cap (cst m) b2 L wr) (fun _ i _ => L.length - (intOf i).toNat)
      case atStart => exact ⟨0, rfl, by omega, val_i hsh.out, fun j hj => by omega, hst1⟩
      case round =>
        clear hst1
        rename_i wr
        obtain ⟨k, rfl, hk, rfl, hall, hstr⟩ := hrel
        by_cases hlt : k < L.length
        · have hi1 : (0 : Int) ≤ (k : Int) := by omega
          have hi2 : (k : Int) < (L.length : Int) := by omega
          by_cases he : isEl (cst m) (L.getD k 0) = true
          · obtain ⟨D, hD, hDn⟩ := isEl_of hm he
            have hall' : Hid (∀ j, j < k + 1 → isEl (cst m) (L.getD j 0) = true) := fun j hj => by
              by_cases e : j = k
              · rw [e]; exact he
              · exact hall.out j (by omega)
            have hc1 := hclt.out k
            have hc2 := hclt.out (k + 1)
            have hnx : Hid (cubTo m X L (k + 1) = cubTo m X L k ||| shiftN m (cubTo m X L k) D) := by unfold Hid; rw [cubTo, hD]; rfl
            have hy := hid hD
            rw [hD] at he
            have hslt := shiftN_lt hm (cubTo m X L k) D
            have hor := bits_or_nat (cubTo m X L k) (shiftN m (cubTo m X L k) D) (by omega) (by omega)
            have hst0 := hstr.drew.holdL hlt hy
            clear hD hstr
            generalize cubTo m X L k = T at *
            go_wp2
            go_region_held3 (fun w' => w'.cell? ⟨w.heap.size, 0, none⟩ = some (.slice (some ⟨b, off, none⟩) (cst m).length cap) ∧ w'.cell? ⟨b2, k, none⟩ = some (.int .i64 (D : Int)) ∧ StL w b off cap (cst m) b2 L w') (first | exact hst0 | exact StL.keepL (by assumption) hlt hy hb2)
              (first | (go_at_call 50; refine (l2Is_any _ _ _ _ _ _ hl (StL.grpL (by assumption))).mono ?_; rintro e w2 ⟨rfl, hb2⟩; rw [he]))
            have hst2 : StL w b off cap (cst m) b2 L w2 := And.right (And.right (by assumption))
            have hst3 := hst2.drew.holdL hlt hy
            clear hst0 hst2
            go_wp2
            go_region_held3 (fun w' => w'.cell? ⟨w.heap.size, 0, none⟩ = some (.slice (some ⟨b, off, none⟩) (cst m).length cap) ∧ w'.cell? ⟨b2, k, none⟩ = some (.int .i64 (D : Int)) ∧ StL w b off cap (cst m) b2 L w') (first | exact hst3 | exact StL.keepL (by assumption) hlt hy hb4)
              (first | (go_at_call 51; refine (l3Shift_any _ _ _ _ _ _ _ hm (by omega) (by omega) (StL.grpL (by assumption))).mono ?_; rintro e w4 ⟨rfl, hb4⟩))
            have hst4 : StL w b off cap (cst m) b2 L w4 := And.right (And.right (by assumption))
            clear hst3
            go_wp2
            go_roundw
            case rel => exact ⟨k + 1, by go_num, by omega, by rw [hnx.out], hall', hst4⟩
            case measure => simp [intOf]; omega
          · have he' : isEl (cst m) (L.getD k 0) = false := by simpa using he
            have hno := hid (cubOk_no3 (x := (X : Int)) hlt he')
            have hr := hid (cubF_no hno.out)
            obtain ⟨y, hy⟩ : ∃ y, Hid (L.getD k 0 = y) := ⟨_, rfl⟩
            rw [hy.out] at he'
            have hst0 := hstr.drew.holdL hlt hy
            clear he hstr
            go_wp2
            go_region_held3 (fun w' => w'.cell? ⟨w.heap.size, 0, none⟩ = some (.slice (some ⟨b, off, none⟩) (cst m).length cap) ∧ w'.cell? ⟨b2, k, none⟩ = some (.int .i64 y) ∧ StL w b off cap (cst m) b2 L w') (first | exact hst0 | exact StL.keepL (by assumption) hlt hy hb2)
              (first | (go_at_call 50; refine (l2Is_any _ _ _ _ _ _ hl (StL.grpL (by assumption))).mono ?_; rintro e w2 ⟨rfl, hb2⟩; rw [he']))
            have hst2 : StL w b off cap (cst m) b2 L w2 := And.right (And.right (by assumption))
            go_wp2
            go_ret2
            exact ⟨ret_ibC hr.out.symm hno.out.symm, hst2.st.below⟩
        · have hyes := hid (cubOk_end hx h5 (fun j hj => hall.out j (by omega)))
          have hr := hid (cubF_yes hyes.out)
          have hkl : Hid (cubTo m X L k = cubTo m X L L.length) := by rw [show k = L.length from by omega]; rfl
          generalize cubTo m X L k = T at *
          go_wp2
          go_ret2
          exact ⟨ret_ibC (by rw [hr.out, hkl.out]) hyes.out.symm, hstr.st.below⟩
    · have hno := hid (cubOk_no2 (l := cst m) (x := (X : Int)) h5)
      have hr := hid (cubF_no hno.out)
      go_enter Try.func24, Try.ntmps24
      go_wp2_with fail
      refine (l2Is_any _ _ _ _ _ _ hl hst.st.grp).mono ?_; rintro e w1 ⟨rfl, hb1⟩; rw [hx]; have hst1 := hst.step hb1
      go_wp2
      go_ret2
      exact ⟨ret_ibC hr.out.symm hno.out.symm, hst1.st.below⟩
  · have hx' : isEl l x = false := by simpa using hx
    have hno := hid (cubOk_no1 (L := L) hx')
    have hr := hid (cubF_no hno.out)
    clear hx
    go_enter Try.func24, Try.ntmps24
    go_wp2_with fail
    refine (l2Is_any _ _ _ _ _ _ hl hst.st.grp).mono ?_; rintro e w1 ⟨rfl, hb1⟩; rw [hx']; have hst1 := hst.step hb1
    go_wp2
    go_ret2
    exact ⟨ret_ibC hr.out.symm hno.out.symm, hst1.st.below⟩
end Go.Proofs.Ytickcopllojchaa
