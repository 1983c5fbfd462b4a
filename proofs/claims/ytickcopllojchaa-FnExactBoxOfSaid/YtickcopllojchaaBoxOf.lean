/-
  Contracts: sums of progressions from 0 on.
-/
import Derived.Test.YtickcopllojchaaCubeOf
import Derived.Test.YtickcopllojchaaPro
import Derived.Deep.RegionHeld3
namespace Go.Proofs.Ytickcopllojchaa
open Go.RowKit

def boxTo (m : List Nat) (L K : List Int) : Nat → Nat
  | 0 => 1
  | k + 1 => sumN m (boxTo m L K k) (ofL (progTo m 0 (L.getD k 0).toNat (K.getD k 0).toNat))
theorem boxTo_lt {m : List Nat} (hm : Ok m) (L K : List Int) : ∀ k, boxTo m L K k < 16777216
  | 0 => by simp [boxTo]
  | k + 1 => sumN_lt hm _ _
def fineB (l L K : List Int) (i : Nat) : Bool := isEl l (L.getD i 0) && decide (i < K.length) && inB (K.getD i 0) 1 24
def boxOk (l L K : List Int) : Bool := grp l && decide (L.length = K.length) && decide (L.length ≤ 3) && (List.range L.length).all (fineB l L K)
def boxF (l L K : List Int) : Int := if boxOk l L K = true then (boxTo (toN l) L K L.length : Nat) else 0
theorem boxF_yes {m : List Nat} {L K : List Int} (h : boxOk (cst m) L K = true) : boxF (cst m) L K = (boxTo m L K L.length : Nat) := by
  unfold boxF; rw [if_pos h, toN_cst]
theorem boxF_no {l L K : List Int} (h : boxOk l L K = false) : boxF l L K = 0 := by unfold boxF; rw [if_neg (by simp [h])]
theorem boxOk_no1 {l L K : List Int} (h : grp l = false) : boxOk l L K = false := by unfold boxOk; rw [h]; rfl
theorem boxOk_no2 {l L K : List Int} (h : ¬ L.length = K.length) : boxOk l L K = false := by unfold boxOk; simp [h]
theorem boxOk_no3 {l L K : List Int} (h : ¬ L.length ≤ 3) : boxOk l L K = false := by unfold boxOk; simp [h]
theorem boxOk_no4 {l L K : List Int} {k : Nat} (hk : k < L.length) (h : fineB l L K k = false) : boxOk l L K = false := by
  rw [Bool.eq_false_iff]; intro hc
  simp only [boxOk, Bool.and_eq_true, List.all_eq_true, List.mem_range] at hc
  rw [hc.2 k hk] at h; cases h
theorem boxOk_end {l L K : List Int} (h : ∀ k, k < L.length → fineB l L K k = true) : boxOk l L K = (grp l && decide (L.length = K.length) && decide (L.length ≤ 3)) := by
  have : (List.range L.length).all (fineB l L K) = true := by
    rw [List.all_eq_true]; intro i hi; exact h i (List.mem_range.1 hi)
  unfold boxOk; rw [this, Bool.and_true]
theorem fineB_no1 {l L K : List Int} {k : Nat} (h : isEl l (L.getD k 0) = false) : fineB l L K k = false := by unfold fineB; rw [h]; rfl
theorem fineB_no2 {l L K : List Int} {k : Nat} (h : ¬ k < K.length) : fineB l L K k = false := by unfold fineB; simp [h]
theorem fineB_no3 {l L K : List Int} {k : Nat} (h : inB (K.getD k 0) 1 24 = false) : fineB l L K k = false := by unfold fineB; rw [h]; simp
theorem fineB_yes {l L K : List Int} {k : Nat} (h1 : isEl l (L.getD k 0) = true) (h2 : k < K.length) (h3 : inB (K.getD k 0) 1 24 = true) : fineB l L K k = true := by unfold fineB; rw [h1, h3]; simp [h2]
theorem fineB_iff {l L K : List Int} {k : Nat} (h : fineB l L K k = true) : isEl l (L.getD k 0) = true ∧ k < K.length ∧ inB (K.getD k 0) 1 24 = true := by
  simp only [fineB, Bool.and_eq_true, decide_eq_true_eq] at h; exact ⟨h.1.1, h.1.2, h.2⟩

/-- the world with a boxed group and two other slices -/
structure StM (w : World) (b off cap : Nat) (l : List Int) (b2 : Nat) (L : List Int) (b3 : Nat) (K : List Int) (wr : World) : Prop where
  st : St w b off cap l wr
  l1 : GrpAt wr b2 0 L
  l2 : GrpAt wr b3 0 K
section
variable {w wr w1 : World} {b off cap b2 b3 k : Nat} {l L K : List Int} {x y : Int}
theorem StM.init (t : TypeId) (hg : GrpAt w b off l) (hg2 : GrpAt w b2 0 L) (hg3 : GrpAt w b3 0 K) : StM w b off cap l b2 L b3 K (w.alloc (.cells #[.slice (some ⟨b, off, none⟩) l.length cap] t)) := ⟨St.init cap t hg, hg2.alloc _, hg3.alloc _⟩
theorem StM.step (h : StM w b off cap l b2 L b3 K wr) (hb : Below wr.heap.size wr w1) : StM w b off cap l b2 L b3 K w1 := ⟨h.st.step hb, h.l1.below hb, h.l2.below hb⟩
theorem StM.drew (h : StM w b off cap l b2 L b3 K wr) : StM w b off cap l b2 L b3 K wr.drew := ⟨h.st.drew, h.l1.drew, h.l2.drew⟩
theorem StM.hold1 (h : StM w b off cap l b2 L b3 K wr) (hk : k < L.length) (hx : Hid (L.getD k 0 = x)) :
    wr.cell? ⟨w.heap.size, 0, none⟩ = some (.slice (some ⟨b, off, none⟩) l.length cap) ∧ wr.cell? ⟨b2, k, none⟩ = some (.int .i64 x) ∧ StM w b off cap l b2 L b3 K wr := ⟨h.st.box, by rw [h.l1.cell0 k hk, hx.out], h⟩
theorem StM.keep1 (h : wr.cell? ⟨w.heap.size, 0, none⟩ = some (.slice (some ⟨b, off, none⟩) l.length cap) ∧ wr.cell? ⟨b2, k, none⟩ = some (.int .i64 x) ∧ StM w b off cap l b2 L b3 K wr) (hk : k < L.length) (hx : Hid (L.getD k 0 = x)) (hb : Below wr.heap.size wr w1) :
    w1.cell? ⟨w.heap.size, 0, none⟩ = some (.slice (some ⟨b, off, none⟩) l.length cap) ∧ w1.cell? ⟨b2, k, none⟩ = some (.int .i64 x) ∧ StM w b off cap l b2 L b3 K w1 := (h.2.2.step hb).hold1 hk hx
theorem StM.hold2 (h : StM w b off cap l b2 L b3 K wr) (hk : k < L.length) (hk' : k < K.length) (hx : Hid (L.getD k 0 = x)) (hy : Hid (K.getD k 0 = y)) :
    wr.cell? ⟨w.heap.size, 0, none⟩ = some (.slice (some ⟨b, off, none⟩) l.length cap) ∧ wr.cell? ⟨b2, k, none⟩ = some (.int .i64 x) ∧ wr.cell? ⟨b3, k, none⟩ = some (.int .i64 y) ∧ StM w b off cap l b2 L b3 K wr := ⟨h.st.box, by rw [h.l1.cell0 k hk, hx.out], by rw [h.l2.cell0 k hk', hy.out], h⟩
theorem StM.keep2 (h : wr.cell? ⟨w.heap.size, 0, none⟩ = some (.slice (some ⟨b, off, none⟩) l.length cap) ∧ wr.cell? ⟨b2, k, none⟩ = some (.int .i64 x) ∧ wr.cell? ⟨b3, k, none⟩ = some (.int .i64 y) ∧ StM w b off cap l b2 L b3 K wr) (hk : k < L.length) (hk' : k < K.length) (hx : Hid (L.getD k 0 = x)) (hy : Hid (K.getD k 0 = y)) (hb : Below wr.heap.size wr w1) :
    w1.cell? ⟨w.heap.size, 0, none⟩ = some (.slice (some ⟨b, off, none⟩) l.length cap) ∧ w1.cell? ⟨b2, k, none⟩ = some (.int .i64 x) ∧ w1.cell? ⟨b3, k, none⟩ = some (.int .i64 y) ∧ StM w b off cap l b2 L b3 K w1 := (h.2.2.2.step hb).hold2 hk hk' hx hy
end
theorem inB_nat24 {y : Int} (h : inB y 1 24 = true) : ∃ Y : Nat, y = Y ∧ 1 ≤ Y ∧ Y ≤ 24 := by
  have := inB_iff.1 h; exact ⟨y.toNat, by omega, by omega, by omega⟩
theorem prog_lt {m : List Nat} (hm : Ok m) (d n : Nat) : ofL (progTo m 0 d n) < 16777216 := ofL_bound (progTo_24 hm hm.pos n)
set_option maxHeartbeats 1000000 in
theorem boxOf_any (b off cap : Nat) (l : List Int) (b2 cap2 : Nat) (L : List Int) (b3 cap3 : Nat) (K : List Int) (w : World) (hl : l.length ≤ 1099511627776) (hL : L.length ≤ 1099511627776) (hK : K.length ≤ 1099511627776) (hg : GrpAt w b off l) (hg2 : GrpAt w b2 0 L) (hg3 : GrpAt w b3 0 K) :
    Calls Try.prog 32 #[.agg #[.slice (some ⟨b, off, none⟩) l.length cap], .slice (some ⟨b2, 0, none⟩) L.length cap2, .slice (some ⟨b3, 0, none⟩) K.length cap3] w fun e w' => e = .returned (.tuple #[.int .i64 (boxF l L K), .bool (boxOk l L K)]) ∧ Below w.heap.size w w' := by
  have hst := StM.init (cap := cap) 32 hg hg2 hg3
  clear hg hg2 hg3
  by_cases hgr : grp l = true
  · by_cases hlen : L.length = K.length
    · have hne : ((L.length : Int) != (K.length : Int)) = false := by rw [hlen]; simp
      have hlen' := hid hlen
      have hLK : L.length ≤ K.length ∧ K.length ≤ L.length := by omega
      clear hlen
      by_cases h3 : L.length ≤ 3
      · obtain ⟨m, hm, rfl⟩ := grp_ok hgr
        have hblt : Hid (∀ k, boxTo m L K k < 16777216) := boxTo_lt hm L K
        go_enter Try.func32, Try.ntmps32
        go_wp2_with fail
        refine (isGroup_any _ _ _ _ _ hl hst.st.grp).mono ?_; rintro e w1 ⟨rfl, hb1⟩; rw [hgr]; have hst1 := hst.step hb1
        clear hst hb1
        go_wp2
        go_loopw [8, 28] (fun o i wr => ∃ k : Nat, i = .int .i64 k ∧ k ≤ L.length ∧ o = .int .i64 (boxTo m L K k : Nat) ∧ Hid (∀ j, j < k → fineB (cst m) L K j = true) ∧ StM w b off cap (cst m) b2 L b3 K wr) (fun _ i _ => L.length - (intOf i).toNat)
        case atStart => exact ⟨0, rfl, by omega, rfl, fun j hj => by omega, hst1⟩
        case round =>
          clear hst1
          rename_i wr
          obtain ⟨k, rfl, hk, rfl, hall, hstr⟩ := hrel
          have hbox := hstr.st.box
          by_cases hlt : k < L.length
          · have hltK : k < K.length := by omega
            have hck := hstr.l1.cell0 k hlt
            have hcK := hstr.l2.cell0 k hltK
            have hi1 : (0 : Int) ≤ (k : Int) := by omega
            have hi2 : (k : Int) < (K.length : Int) := by omega
            by_cases hf : fineB (cst m) L K k = true
            · obtain ⟨f1, _, f3⟩ := fineB_iff hf
              obtain ⟨D, hD, hDn⟩ := isEl_of hm f1
              obtain ⟨Y, hY, hY1, hY24⟩ := inB_nat24 f3
              have hall' : Hid (∀ j, j < k + 1 → fineB (cst m) L K j = true) := fun j hj => by
                by_cases e : j = k
                · rw [e]; exact hf
                · exact hall.out j (by omega)
              have hnx : Hid (boxTo m L K (k + 1) = sumN m (boxTo m L K k) (ofL (progTo m 0 D Y))) := by unfold Hid; rw [boxTo, hD, hY]; rfl
              have hc1 := hblt.out k
              have hpl := prog_lt hm D Y
              have hpos := hm.pos
              rw [hD] at hck f1
              rw [hY] at hcK f3
              have hx := hid hD
              have hy := hid hY
              clear hD hY hf
              generalize boxTo m L K k = T at *
              go_wp2_with fail
              refine (has_any _ _ _ _ _ _ hl hstr.st.grp).mono ?_; rintro e w2 ⟨rfl, hb2⟩; rw [f1]; have hst2 := hstr.step hb2; have hcK2 := hst2.l2.cell0 k hltK; rw [hy.out] at hcK2
              clear hstr hb2 hbox hck hcK
              go_wp2_with fail
              refine (within_any _ _ _ _).mono ?_; rintro e w3 ⟨rfl, rfl⟩; rw [f3]
              have hst0 := hst2.drew.hold2 hlt hltK hx hy
              clear hst2 hcK2
              go_wp2
              go_region_held3 (fun w' => w'.cell? ⟨w.heap.size, 0, none⟩ = some (.slice (some ⟨b, off, none⟩) (cst m).length cap) ∧ w'.cell? ⟨b2, k, none⟩ = some (.int .i64 (D : Int)) ∧ w'.cell? ⟨b3, k, none⟩ = some (.int .i64 (Y : Int)) ∧ StM w b off cap (cst m) b2 L b3 K w') (first | exact hst0 | exact StM.keep2 (by assumption) hlt hltK hx hy hb4)
                (first | (go_at_call 64; refine (progression_any _ _ _ _ 0 D Y _ hm hpos hDn hY24 (StM.st (And.right (And.right (And.right (by assumption))))).grp).mono ?_; rintro e w4 ⟨rfl, hb4⟩) | (go_at_call 63; refine (sum_any _ _ _ _ _ _ _ hm (by omega) (by omega) (StM.st (And.right (And.right (And.right (by assumption))))).grp).mono ?_; rintro e w4 ⟨rfl, hb4⟩))
              have hst4 : StM w b off cap (cst m) b2 L b3 K w4 := And.right (And.right (And.right (by assumption)))
              clear hst0
              go_wp2
              go_roundw
              case rel => exact ⟨k + 1, by go_num, by omega, by rw [hnx.out], hall', hst4⟩
              case measure => simp [intOf]; omega
            · have hf' : fineB (cst m) L K k = false := by simpa using hf
              have hno := hid (boxOk_no4 hlt hf')
              have hr := hid (boxF_no hno.out)
              by_cases he : isEl (cst m) (L.getD k 0) = true
              · have hin : inB (K.getD k 0) 1 24 = false := by
                  rw [Bool.eq_false_iff]; intro hc; exact hf (fineB_yes he hltK hc)
                obtain ⟨y, hy⟩ : ∃ y, Hid (K.getD k 0 = y) := ⟨_, rfl⟩
                rw [hy.out] at hin
                clear hf hf' hcK
                generalize L.getD k 0 = x at *
                go_wp2_with fail
                refine (has_any _ _ _ _ _ _ hl hstr.st.grp).mono ?_; rintro e w2 ⟨rfl, hb2⟩; rw [he]; have hst2 := hstr.step hb2; have hcK2 := hst2.l2.cell0 k hltK; rw [hy.out] at hcK2
                clear hstr hb2 hbox hck
                go_wp2_with fail
                refine (within_any _ _ _ _).mono ?_; rintro e w3 ⟨rfl, rfl⟩; rw [hin]
                go_wp2
                go_ret2
                exact ⟨ret_ibC hr.out.symm hno.out.symm, hst2.st.below⟩
              · have he' : isEl (cst m) (L.getD k 0) = false := by simpa using he
                clear he hf hf' hcK
                generalize L.getD k 0 = x at *
                go_wp2_with fail
                refine (has_any _ _ _ _ _ _ hl hstr.st.grp).mono ?_; rintro e w2 ⟨rfl, hb2⟩; rw [he']; have hst2 := hstr.step hb2
                go_wp2
                go_ret2
                exact ⟨ret_ibC hr.out.symm hno.out.symm, hst2.st.below⟩
          · have hyes : Hid (boxOk (cst m) L K = true) := by
              unfold Hid; rw [boxOk_end (fun j hj => hall.out j (by omega)), hgr]; simp [hlen'.out]; omega
            have hr := hid (boxF_yes hyes.out)
            have hkl : Hid (boxTo m L K k = boxTo m L K L.length) := by rw [show k = L.length from by omega]; rfl
            generalize boxTo m L K k = T at *
            go_wp2
            go_ret2
            exact ⟨ret_ibC (by rw [hr.out, hkl.out]) hyes.out.symm, hstr.st.below⟩
      · have hno := hid (boxOk_no3 (l := l) (K := K) h3)
        have hr := hid (boxF_no hno.out)
        go_enter Try.func32, Try.ntmps32
        go_wp2_with fail
        refine (isGroup_any _ _ _ _ _ hl hst.st.grp).mono ?_; rintro e w1 ⟨rfl, hb1⟩; rw [hgr]; have hst1 := hst.step hb1
        go_wp2
        go_ret2
        exact ⟨ret_ibC hr.out.symm hno.out.symm, hst1.st.below⟩
    · have hno := hid (boxOk_no2 (l := l) hlen)
      have hr := hid (boxF_no hno.out)
      have hne : ((L.length : Int) != (K.length : Int)) = true := by rw [bne_iff_ne]; omega
      clear hlen
      go_enter Try.func32, Try.ntmps32
      go_wp2_with fail
      refine (isGroup_any _ _ _ _ _ hl hst.st.grp).mono ?_; rintro e w1 ⟨rfl, hb1⟩; rw [hgr]; have hst1 := hst.step hb1
      go_wp2
      go_ret2
      exact ⟨ret_ibC hr.out.symm hno.out.symm, hst1.st.below⟩
  · have hgr' : grp l = false := by simpa using hgr
    have hno := hid (boxOk_no1 (L := L) (K := K) hgr')
    have hr := hid (boxF_no hno.out)
    clear hgr
    go_enter Try.func32, Try.ntmps32
    go_wp2_with fail
    refine (isGroup_any _ _ _ _ _ hl hst.st.grp).mono ?_; rintro e w1 ⟨rfl, hb1⟩; rw [hgr']; have hst1 := hst.step hb1
    go_wp2
    go_ret2
    exact ⟨ret_ibC hr.out.symm hno.out.symm, hst1.st.below⟩
end Go.Proofs.Ytickcopllojchaa
