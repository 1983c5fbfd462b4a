/-
  Contracts: how many pairs have each sum.
-/
import Derived.Test.YtggjbicllnppkaaFull
import Derived.Test.YtggjbicllnppkaaAdd
import Derived.Deep.RegionHeld3
namespace Go.Proofs.Ytggjbicllnppkaa
open Go.RowKit

/-- how often each number below n stands in a list -/
def cntTo (n : Nat) (P : List Nat) : List Nat := (List.range n).map fun z => P.count z
theorem cntTo_len (n : Nat) (P : List Nat) : (cntTo n P).length = n := by simp [cntTo]
theorem cntTo_getD {n : Nat} {P : List Nat} {z : Nat} (h : z < n) : (cntTo n P).getD z 0 = P.count z := by
  simp [cntTo, List.getD_eq_getElem?_getD, List.getElem?_map, List.getElem?_range h]
theorem cntTo_step {n : Nat} {P : List Nat} {z : Nat} (_h : z < n) : (cntTo n P).set z (P.count z + 1) = cntTo n (P ++ [z]) := by
  apply List.ext_getElem (by simp [cntTo])
  intro i h1 h2
  simp only [cntTo, List.length_set, List.length_map, List.length_range] at h1
  rw [List.getElem_set]
  by_cases e : z = i
  · subst e; simp [cntTo, List.count_append]
  · rw [if_neg e]
    simp [cntTo, List.count_append, List.count_singleton, e]
theorem cntTo_nil (n : Nat) : cntTo n [] = List.replicate n 0 := by
  apply List.ext_getElem (by simp [cntTo]); intro i h1 h2; simp [cntTo]
theorem cst_set (l : List Nat) (z x : Nat) : (cst l).set z (x : Int) = cst (l.set z x) := by simp [cst, List.map_set]
theorem cst_replicate (n : Nat) : cst (List.replicate n 0) = List.replicate n (0 : Int) := by simp [cst]
/-- the sums of pairs that have been met before place (i, j) -/
def pairsTo (m : List Nat) (K L : List Nat) (i j : Nat) : List Nat := ((K.take i).flatMap fun x => L.map (addN m x)) ++ (L.take j).map (addN m (K.getD i 0))
def pairs (m : List Nat) (K L : List Nat) : List Nat := K.flatMap fun x => L.map (addN m x)
theorem pairsTo_step {m K L : List Nat} {i j : Nat} (hj : j < L.length) : pairsTo m K L i (j + 1) = pairsTo m K L i j ++ [addN m (K.getD i 0) (L.getD j 0)] := by
  unfold pairsTo; rw [take_snoc L 0 j hj, List.map_append, List.append_assoc]; rfl
theorem pairsTo_next {m K L : List Nat} {i j : Nat} (hi : i < K.length) (hj : L.length ≤ j) : pairsTo m K L i j = pairsTo m K L (i + 1) 0 := by
  unfold pairsTo; rw [take_snoc K 0 i hi, List.flatMap_append, List.take_of_length_le hj]; simp
theorem pairsTo_end {m K L : List Nat} {i : Nat} (hi : K.length ≤ i) : pairsTo m K L i 0 = pairs m K L := by
  unfold pairsTo pairs; rw [List.take_of_length_le hi]; simp
theorem flatMap_len {α β : Type} (K : List α) (f : α → List β) (B : Nat) (h : ∀ x, (f x).length ≤ B) : (K.flatMap f).length ≤ K.length * B := by
  induction K with
  | nil => simp
  | cons x r ih => have := h x; rw [List.flatMap_cons, List.length_append, List.length_cons, Nat.add_mul]; omega
theorem pairsTo_bd {m K L : List Nat} {i j z : Nat} (hK : K.length ≤ 24) (hL : L.length ≤ 24) : (pairsTo m K L i j).count z ≤ 600 := by
  refine Nat.le_trans List.count_le_length ?_
  unfold pairsTo
  have h1 := flatMap_len (K.take i) (fun x => L.map (addN m x)) 24 (fun x => by simpa using hL)
  have h2 : (K.take i).length ≤ 24 := by simp; omega
  have h3 : ((L.take j).map (addN m (K.getD i 0))).length ≤ 24 := by simp; omega
  rw [List.length_append]
  have h4 : (K.take i).length * 24 ≤ 24 * 24 := Nat.mul_le_mul_right _ h2
  omega
def tabN (m : List Nat) (A B : Nat) : List Nat := cntTo (prodN m) (pairs m (mem A) (mem B))

/-- the world in the loops: the box, the two lists, the table -/
structure StT (w : World) (b off cap : Nat) (m : List Nat) (g1 g2 go : Nat) (K L T : List Nat) (wr : World) : Prop where
  st : St w b off cap (cst m) wr
  l1 : GrpAt wr g1 0 (cst K)
  l2 : GrpAt wr g2 0 (cst L)
  out : Made w (cst T) go (prodN m) wr
  ne1 : g1 ≠ go
  ne2 : g2 ≠ go
  neb : b ≠ go
  new : w.heap.size ≠ go
theorem StT.step {w wr w1 : World} {b off cap g1 g2 go : Nat} {m K L T : List Nat} (h : StT w b off cap m g1 g2 go K L T wr) (hb : Below wr.heap.size wr w1) : StT w b off cap m g1 g2 go K L T w1 :=
  ⟨h.st.step hb, h.l1.below hb, h.l2.below hb, h.out.step hb, h.ne1, h.ne2, h.neb, h.new⟩
theorem St.setCell {w wr : World} {b off cap go : Nat} {l : List Int} (h : St w b off cap l wr) (hgo : w.heap.size ≤ go) (hn : w.heap.size ≠ go) (hb : b ≠ go) (j : Nat) (u : Value) : St w b off cap l (wr.setCell ⟨go, j, none⟩ u) :=
  ⟨h.below.setCell hgo _, by simpa [World.setCell] using h.size, by rw [← h.box]; exact World.cell?_of_block (Below.heap_setCell _ _ _ _ (by simpa using hn)), h.grp.setCell hb u⟩
theorem StT.store {w wr : World} {b off cap g1 g2 go : Nat} {m K L T : List Nat} (h : StT w b off cap m g1 g2 go K L T wr) (z x : Nat) : StT w b off cap m g1 g2 go K L (T.set z x) (wr.setCell ⟨go, z, none⟩ (.int .i64 (x : Int))) :=
  ⟨h.st.setCell h.out.base h.new h.neb _ _, h.l1.setCell h.ne1 _, h.l2.setCell h.ne2 _, by rw [← cst_set]; exact h.out.store z x, h.ne1, h.ne2, h.neb, h.new⟩
theorem Made.ne {w wr : World} {l : List Int} {g c b off : Nat} {l2 : List Int} (h : Made w l g c wr) (hg : GrpAt w b off l2) : b ≠ g := by
  have := h.base; have := hg.blt; omega
/-- what a region holds on to in the inner loop -/
theorem StT.hold {w wr : World} {b off cap g1 g2 go k q x y : Nat} {m K L T : List Nat} (h : StT w b off cap m g1 g2 go K L T wr) (hk : k < (cst K).length) (hx : Hid (K.getD k 0 = x)) (hq : q < (cst L).length) (hy : Hid (L.getD q 0 = y)) :
    wr.cell? ⟨w.heap.size, 0, none⟩ = some (.slice (some ⟨b, off, none⟩) (cst m).length cap) ∧ wr.cell? ⟨g1, k, none⟩ = some (.int .i64 (x : Int)) ∧ wr.cell? ⟨g2, q, none⟩ = some (.int .i64 (y : Int)) ∧ StT w b off cap m g1 g2 go K L T wr :=
  ⟨h.st.box, by rw [h.l1.nat0 k hk, hx.out], by rw [h.l2.nat0 q hq, hy.out], h⟩
theorem StT.keep {w wr w1 : World} {b off cap g1 g2 go k q x y : Nat} {m K L T : List Nat} (h : wr.cell? ⟨w.heap.size, 0, none⟩ = some (.slice (some ⟨b, off, none⟩) (cst m).length cap) ∧ wr.cell? ⟨g1, k, none⟩ = some (.int .i64 (x : Int)) ∧ wr.cell? ⟨g2, q, none⟩ = some (.int .i64 (y : Int)) ∧ StT w b off cap m g1 g2 go K L T wr) (hk : k < (cst K).length) (hx : Hid (K.getD k 0 = x)) (hq : q < (cst L).length) (hy : Hid (L.getD q 0 = y)) (hb : Below wr.heap.size wr w1) :
    w1.cell? ⟨w.heap.size, 0, none⟩ = some (.slice (some ⟨b, off, none⟩) (cst m).length cap) ∧ w1.cell? ⟨g1, k, none⟩ = some (.int .i64 (x : Int)) ∧ w1.cell? ⟨g2, q, none⟩ = some (.int .i64 (y : Int)) ∧ StT w b off cap m g1 g2 go K L T w1 :=
  (h.2.2.2.step hb).hold hk hx hq hy
theorem StT.grpOf {w wr : World} {b off cap g1 g2 go k q x y : Nat} {m K L T : List Nat} (h : wr.cell? ⟨w.heap.size, 0, none⟩ = some (.slice (some ⟨b, off, none⟩) (cst m).length cap) ∧ wr.cell? ⟨g1, k, none⟩ = some (.int .i64 (x : Int)) ∧ wr.cell? ⟨g2, q, none⟩ = some (.int .i64 (y : Int)) ∧ StT w b off cap m g1 g2 go K L T wr) : GrpAt wr b off (cst m) := h.2.2.2.st.grp
theorem StT.drew {w wr : World} {b off cap g1 g2 go : Nat} {m K L T : List Nat} (h : StT w b off cap m g1 g2 go K L T wr) : StT w b off cap m g1 g2 go K L T wr.drew := h.step (Below.refl _ _).drew
set_option maxHeartbeats 1000000 in
theorem sumTable_yes (b off cap : Nat) (m : List Nat) (A B : Nat) (w : World) (hm : Ok m) (hA : A < 2 ^ prodN m) (hB : B < 2 ^ prodN m) (hg : GrpAt w b off (cst m)) :
    Calls Try.prog 82 #[.agg #[.slice (some ⟨b, off, none⟩) (cst m).length cap], .int .i64 A, .int .i64 B] w (RetInts w (cst (tabN m A B))) := by
  obtain ⟨i0, hi, hz0, hz1, hz2⟩ := info_parts info_int
  have hst := St.init cap 27 hg
  have hst1 := hst.step ((Below.refl _ _).alloc (Nat.le_refl _) (.cells #[.int .i64 (A : Int), .int .i64 (B : Int)] 3))
  have hg2 := GrpAt.two (w.alloc (.cells #[.slice (some ⟨b, off, none⟩) (cst m).length cap] 27)) A B 3 (w.heap.size + 1) (by simp)
  have htwo : two (cst m) A B = true := two_iff.2 ⟨m, A, B, hm, rfl, rfl, rfl, hA, hB⟩
  have hl : (cst m).length ≤ 1099511627776 := by rw [cst_length]; have := hm.len; omega
  have hA' := Nat.lt_of_lt_of_le hA hm.pow_le
  have hB' := Nat.lt_of_lt_of_le hB hm.pow_le
  have hn := hm.ord
  have hK24 : (mem A).length ≤ 24 := card_le A
  have hL24 : (mem B).length ≤ 24 := card_le B
  clear hA hB
  go_enter Try.func82, Try.ntmps82
  go_wp2_with fail
  refine (areSets_two _ _ _ _ _ _ _ _ _ hl hst1.grp hg2).mono ?_; rintro e w1 ⟨rfl, hb1⟩; have hst2 := hst1.step hb1; have hbox2 := hst2.box
  clear hst hst1 hg2 hb1
  go_wp2_with fail
  refine (orderOf_yes _ _ _ _ _ hm hst2.grp).mono ?_; rintro e w2 ⟨rfl, hb2⟩; have hst3 := hst2.step hb2
  clear hst2 hb2 hbox2
  go_wp2_with (refine wpList_make_full _ rfl _ _ 22 rfl w.heap.size 3 i0 (.int .i64 0) 1 Try.underlying22 hi hz0 hz1 .i64 .i64 _ _ (prodN m) rfl rfl rfl rfl ?c2 ?c3 ?c4 ?_)
  case c2 => rw [hz2]; omega
  case c3 => simp only [maxLen]; omega
  case c4 => exact hst3.below.size
  intro w3 hown hgr
  have hmk := Made.make hst3.below hown hgr
  have hst4 : St w b off cap (cst m) w3 := hst3.step ⟨hgr.os, hgr.tape, hgr.output, hgr.size, fun k hk => hgr.block k hk (by simp)⟩
  have hne := hmk.ne hg
  have hnw : w.heap.size ≠ w2.heap.size := by have := hst3.size; omega
  generalize w2.heap.size = go at *
  clear hown hgr hst3
  go_wp2_with fail
  refine (members_any A _ hA').mono ?_; rintro e w4 ⟨g1, c1, rfl, hm1⟩
  have hst5 := hst4.step hm1.below
  have hmk1 := hmk.step hm1.below
  have hg1 := hm1.grp
  have hne1 : g1 ≠ go := by have := hm1.base; have := hmk.lt; omega
  clear hm1 hst4 hmk
  have hstart : Hid (Made w (cst (cntTo (prodN m) (pairsTo m (mem A) (mem B) 0 0))) go (prodN m) w4) := by
    have e : cst (cntTo (prodN m) (pairsTo m (mem A) (mem B) 0 0)) = List.replicate (prodN m) 0 := by simp [pairsTo, cntTo_nil, cst_replicate]
    unfold Hid; rw [e]; exact hmk1
  clear hmk1
  go_wp2
  go_loopw [25] (fun i wr => ∃ k : Nat, i = .int .i64 k ∧ k ≤ (cst (mem A)).length ∧ St w b off cap (cst m) wr ∧ GrpAt wr g1 0 (cst (mem A)) ∧ Made w (cst (cntTo (prodN m) (pairsTo m (mem A) (mem B) k 0))) go (prodN m) wr) (fun i _ => (cst (mem A)).length - (intOf i).toNat)
  case atStart => exact ⟨0, rfl, by omega, hst5, hg1, hstart.out⟩
  case round =>
    clear hst5 hg1 hstart
    rename_i wr
    obtain ⟨k, rfl, hk, hstr, hl1, hout⟩ := hrel
    by_cases hlt : k < (cst (mem A)).length
    · have hltm : k < (mem A).length := by rw [← cst_length]; exact hlt
      have hck := hl1.nat0 k hlt
      have hx24 := mem_getD_lt' hltm
      obtain ⟨x, hx⟩ : ∃ x, Hid ((mem A).getD k 0 = x) := ⟨_, rfl⟩
      rw [hx.out] at hck hx24
      go_wp2_with fail
      refine (members_any B _ hB').mono ?_; rintro e w5 ⟨g2, c2, rfl, hm2⟩
      have hT : StT w b off cap m g1 g2 go (mem A) (mem B) (cntTo (prodN m) (pairsTo m (mem A) (mem B) k 0)) w5 :=
        ⟨hstr.step hm2.below, hl1.below hm2.below, hm2.grp, hout.step hm2.below, hne1, by have := hm2.base; have := hout.lt; omega, hne, hnw⟩
      clear hm2 hstr hl1 hout hck
      go_wp2
      go_loopw [32] (fun j wr => ∃ q : Nat, j = .int .i64 q ∧ q ≤ (cst (mem B)).length ∧ StT w b off cap m g1 g2 go (mem A) (mem B) (cntTo (prodN m) (pairsTo m (mem A) (mem B) k q)) wr) (fun j _ => (cst (mem B)).length - (intOf j).toNat)
      case atStart => exact ⟨0, rfl, by omega, hT⟩
      case round =>
        clear hT
        rename_i wr
        obtain ⟨q, rfl, hq, hTr⟩ := hrel
        by_cases hlq : q < (cst (mem B)).length
        · have hlqm : q < (mem B).length := by rw [← cst_length]; exact hlq
          have hcq := hTr.l2.nat0 q hlq
          have hy24 := mem_getD_lt' hlqm
          have hbox := hTr.st.box
          have hps := hid (pairsTo_step (m := m) (K := mem A) (L := mem B) (i := k) hlqm)
          rw [hx.out] at hps
          generalize (mem B).getD q 0 = y at *
          have hz := hm.add_lt x y
          have hcnt := pairsTo_bd (m := m) (i := k) (j := q) (z := addN m x y) hK24 hL24
          have hst0 : Hid ((cntTo (prodN m) (pairsTo m (mem A) (mem B) k q)).set (addN m x y) ((pairsTo m (mem A) (mem B) k q).count (addN m x y) + 1) = cntTo (prodN m) (pairsTo m (mem A) (mem B) k (q + 1))) := by
            unfold Hid; rw [hps.out]; exact cntTo_step hz
          have hcl : Hid ((cntTo (prodN m) (pairsTo m (mem A) (mem B) k q)).getD (addN m x y) 0 = (pairsTo m (mem A) (mem B) k q).count (addN m x y)) := cntTo_getD hz
          have hcle : addN m x y < (cst (cntTo (prodN m) (pairsTo m (mem A) (mem B) k q))).length := by rw [cst_length, cntTo_len]; exact hz
          generalize (pairsTo m (mem A) (mem B) k q).count (addN m x y) = c at *
          go_wp2_with fail
          refine (add_any _ _ _ _ _ _ _ hm (by omega) (by omega) hTr.st.grp).mono ?_; rintro e w6 ⟨rfl, hb6⟩
          have hT6 := hTr.step hb6
          have hcc : w6.cell? ⟨go, addN m x y, none⟩ = some (.int .i64 (c : Int)) := by rw [hT6.out.cell _ hcle, cst_getD, hcl.out]
          have hfz := hT6.out.frozen (addN m x y)
          have hT7 := hT6.store (addN m x y) (c + 1)
          rw [hst0.out] at hT7
          generalize addN m x y = z at *
          clear hTr hb6 hT6 hcle
          go_wp2
          go_roundw
          case rel => exact ⟨q + 1, by go_num, by omega, hT7⟩
          case measure => simp [intOf]; omega
        · have hend : Hid (pairsTo m (mem A) (mem B) k q = pairsTo m (mem A) (mem B) (k + 1) 0) := pairsTo_next hltm (by rw [← cst_length]; omega)
          have ho := hTr.out
          rw [hend.out] at ho
          go_wp2
          go_roundw
          case rel => exact ⟨k + 1, by go_num, by omega, hTr.st, hTr.l1, ho⟩
          case measure => simp [intOf]; omega
    · have hend : Hid (cst (cntTo (prodN m) (pairsTo m (mem A) (mem B) k 0)) = cst (tabN m A B)) := by unfold Hid; rw [pairsTo_end (by rw [← cst_length]; omega)]; rfl
      have hlen : (cst (tabN m A B)).length = prodN m := by rw [cst_length]; exact cntTo_len _ _
      rw [hend.out] at hout
      have hfin : Hid (RetInts w (cst (tabN m A B)) (.returned (.slice (some ⟨go, 0, none⟩) (prodN m) (prodN m))) wr) := ⟨go, prodN m, by rw [hlen], hout⟩
      clear hlen
      go_wp2
      go_ret
      exact hfin.out
set_option maxHeartbeats 1000000 in
theorem sSumTable_yes (b off cap : Nat) (m : List Nat) (A B : Nat) (w : World) (hm : Ok m) (hA : A < 2 ^ prodN m) (hB : B < 2 ^ prodN m) (hg : GrpAt w b off (cst m)) :
    Calls Try.prog 80 #[.agg #[.slice (some ⟨b, off, none⟩) (cst m).length cap], .int .i64 A, .int .i64 B] w (RetInts w (cst (tabN m A B))) := by
  obtain ⟨i0, hi, hz0, hz1, hz2⟩ := info_parts info_int
  have hst := St.init cap 27 hg
  have y1 := isSetB_nat hm hA
  have y2 := isSetB_nat hm hB
  have hl : (cst m).length ≤ 1099511627776 := by rw [cst_length]; have := hm.len; omega
  have hA' := Nat.lt_of_lt_of_le hA hm.pow_le
  have hB' := Nat.lt_of_lt_of_le hB hm.pow_le
  have hn := hm.ord
  have hK24 : (mem A).length ≤ 24 := card_le A
  have hL24 : (mem B).length ≤ 24 := card_le B
  clear hA hB
  go_enter Try.func80, Try.ntmps80
  go_wp2_with (first | (go_at_call 48; refine (sIsSet_any _ _ _ _ _ _ hl (St.grp (by assumption))).mono ?_; rintro e wN ⟨rfl, hbN⟩; have hstN := St.step (by assumption) hbN; have hboxN := hstN.box; clear hbN))
  refine (l2Order_any _ _ _ _ _ hm (St.grp (by assumption))).mono ?_; rintro e w2 ⟨rfl, hb2⟩; have hst3 : St w b off cap (cst m) w2 := St.step (by assumption) hb2
  clear hst hboxN hb2
  go_wp2_with (refine wpList_make_full _ rfl _ _ 22 rfl w.heap.size 3 i0 (.int .i64 0) 1 Try.underlying22 hi hz0 hz1 .i64 .i64 _ _ (prodN m) rfl rfl rfl rfl ?c2 ?c3 ?c4 ?_)
  case c2 => rw [hz2]; omega
  case c3 => simp only [maxLen]; omega
  case c4 => exact hst3.below.size
  intro w3 hown hgr
  have hmk := Made.make hst3.below hown hgr
  have hst4 : St w b off cap (cst m) w3 := hst3.step ⟨hgr.os, hgr.tape, hgr.output, hgr.size, fun k hk => hgr.block k hk (by simp)⟩
  have hne := hmk.ne hg
  have hnw : w.heap.size ≠ w2.heap.size := by have := hst3.size; omega
  generalize w2.heap.size = go at *
  clear hown hgr hst3
  go_wp2_with fail
  refine (l3List_any A _ hA').mono ?_; rintro e w4 ⟨g1, c1, rfl, hm1⟩
  have hst5 := hst4.step hm1.below
  have hmk1 := hmk.step hm1.below
  have hg1 := hm1.grp
  have hne1 : g1 ≠ go := by have := hm1.base; have := hmk.lt; omega
  clear hm1 hst4 hmk
  go_wp2_with fail
  refine (l3List_any B _ hB').mono ?_; rintro e w5 ⟨g2, c2, rfl, hm2⟩
  have hstart : Hid (StT w b off cap m g1 g2 go (mem A) (mem B) (cntTo (prodN m) (pairsTo m (mem A) (mem B) 0 0)) w5) := by
    have e : cst (cntTo (prodN m) (pairsTo m (mem A) (mem B) 0 0)) = List.replicate (prodN m) 0 := by simp [pairsTo, cntTo_nil, cst_replicate]
    exact ⟨hst5.step hm2.below, hg1.below hm2.below, hm2.grp, by rw [e]; exact hmk1.step hm2.below, hne1, by have := hm2.base; have := hmk1.lt; omega, hne, hnw⟩
  clear hmk1 hst5 hg1 hm2
  go_wp2
  go_loopw [10] (fun i wr => ∃ k : Nat, i = .int .i64 k ∧ k ≤ (cst (mem A)).length ∧ StT w b off cap m g1 g2 go (mem A) (mem B) (cntTo (prodN m) (pairsTo m (mem A) (mem B) k 0)) wr) (fun i _ => (cst (mem A)).length - (intOf i).toNat)
  case atStart => exact ⟨0, rfl, by omega, hstart.out⟩
  case round =>
    clear hstart
    rename_i wr
    obtain ⟨k, rfl, hk, hT⟩ := hrel
    by_cases hlt : k < (cst (mem A)).length
    · have hltm : k < (mem A).length := by rw [← cst_length]; exact hlt
      have hx24 := mem_getD_lt' hltm
      obtain ⟨x, hx⟩ : ∃ x, Hid ((mem A).getD k 0 = x) := ⟨_, rfl⟩
      rw [hx.out] at hx24
      go_wp2
      go_loopw [11] (fun j wr => ∃ q : Nat, j = .int .i64 q ∧ q ≤ (cst (mem B)).length ∧ StT w b off cap m g1 g2 go (mem A) (mem B) (cntTo (prodN m) (pairsTo m (mem A) (mem B) k q)) wr) (fun j _ => (cst (mem B)).length - (intOf j).toNat)
      case atStart => exact ⟨0, rfl, by omega, hT⟩
      case round =>
        clear hT
        rename_i wr
        obtain ⟨q, rfl, hq, hTr⟩ := hrel
        by_cases hlq : q < (cst (mem B)).length
        · have hlqm : q < (mem B).length := by rw [← cst_length]; exact hlq
          have hy24 := mem_getD_lt' hlqm
          obtain ⟨y, hy⟩ : ∃ y, Hid ((mem B).getD q 0 = y) := ⟨_, rfl⟩
          have hps := hid (pairsTo_step (m := m) (K := mem A) (L := mem B) (i := k) hlqm)
          rw [hx.out, hy.out] at hps
          rw [hy.out] at hy24
          have hz := hm.add_lt x y
          have hcnt := pairsTo_bd (m := m) (i := k) (j := q) (z := addN m x y) hK24 hL24
          have hst0 : Hid ((cntTo (prodN m) (pairsTo m (mem A) (mem B) k q)).set (addN m x y) ((pairsTo m (mem A) (mem B) k q).count (addN m x y) + 1) = cntTo (prodN m) (pairsTo m (mem A) (mem B) k (q + 1))) := by
            unfold Hid; rw [hps.out]; exact cntTo_step hz
          have hcl : Hid ((cntTo (prodN m) (pairsTo m (mem A) (mem B) k q)).getD (addN m x y) 0 = (pairsTo m (mem A) (mem B) k q).count (addN m x y)) := cntTo_getD hz
          have hcle : addN m x y < (cst (cntTo (prodN m) (pairsTo m (mem A) (mem B) k q))).length := by rw [cst_length, cntTo_len]; exact hz
          generalize (pairsTo m (mem A) (mem B) k q).count (addN m x y) = c at *
          have hh := hTr.drew.hold hlt hx hlq hy
          clear hTr
          go_wp2
          go_region_held3 (fun w' => w'.cell? ⟨w.heap.size, 0, none⟩ = some (.slice (some ⟨b, off, none⟩) (cst m).length cap) ∧ w'.cell? ⟨g1, k, none⟩ = some (.int .i64 (x : Int)) ∧ w'.cell? ⟨g2, q, none⟩ = some (.int .i64 (y : Int)) ∧ StT w b off cap m g1 g2 go (mem A) (mem B) (cntTo (prodN m) (pairsTo m (mem A) (mem B) k q)) w') (first | exact hh | exact StT.keep (by assumption) hlt hx hlq hy hb6)
            (first | (go_at_call 93; refine (l2Add_any _ _ _ _ _ _ _ hm (by omega) (by omega) (StT.grpOf (by assumption))).mono ?_; rintro e w6 ⟨rfl, hb6⟩))
          have hT6 : StT w b off cap m g1 g2 go (mem A) (mem B) (cntTo (prodN m) (pairsTo m (mem A) (mem B) k q)) w6 := And.right (And.right (And.right (by assumption)))
          have hcc : w6.cell? ⟨go, addN m x y, none⟩ = some (.int .i64 (c : Int)) := by rw [hT6.out.cell _ hcle, cst_getD, hcl.out]
          have hfz := hT6.out.frozen (addN m x y)
          have hT7 := hT6.store (addN m x y) (c + 1)
          rw [hst0.out] at hT7
          generalize addN m x y = z at *
          clear hh hb6 hT6 hcle
          go_wp2
          go_roundw
          case rel => exact ⟨q + 1, by go_num, by omega, hT7⟩
          case measure => simp [intOf]; omega
        · have hend : Hid (pairsTo m (mem A) (mem B) k q = pairsTo m (mem A) (mem B) (k + 1) 0) := pairsTo_next hltm (by rw [← cst_length]; omega)
          rw [hend.out] at hTr
          go_wp2
          go_roundw
          case rel => exact ⟨k + 1, by go_num, by omega, hTr⟩
          case measure => simp [intOf]; omega
    · have hend : Hid (cst (cntTo (prodN m) (pairsTo m (mem A) (mem B) k 0)) = cst (tabN m A B)) := by unfold Hid; rw [pairsTo_end (by rw [← cst_length]; omega)]; rfl
      have hlen : (cst (tabN m A B)).length = prodN m := by rw [cst_length]; exact cntTo_len _ _
      have hout := hT.out
      rw [hend.out] at hout
      have hfin : Hid (RetInts w (cst (tabN m A B)) (.returned (.slice (some ⟨go, 0, none⟩) (prodN m) (prodN m))) wr) := ⟨go, prodN m, by rw [hlen], hout⟩
      clear hlen
      go_wp2
      go_ret
      exact hfin.out
/-- the table of whatever numbers -/
def tabF (l : List Int) (a b : Int) : List Int := if two l a b = true then cst (tabN (toN l) a.toNat b.toNat) else []
theorem tabF_yes {m : List Nat} {A B : Nat} (hm : Ok m) (hA : A < 2 ^ prodN m) (hB : B < 2 ^ prodN m) : tabF (cst m) A B = cst (tabN m A B) := by
  unfold tabF; rw [if_pos (two_iff.2 ⟨m, A, B, hm, rfl, rfl, rfl, hA, hB⟩), toN_cst, Int.toNat_natCast, Int.toNat_natCast]
theorem tabF_no {l : List Int} {a b : Int} (h : two l a b = false) : tabF l a b = [] := by unfold tabF; rw [if_neg (by simp [h])]
set_option maxHeartbeats 400000 in
theorem sumTable_any (b off cap : Nat) (l : List Int) (x y : Int) (w : World) (hl : l.length ≤ 1099511627776) (hg : GrpAt w b off l) :
    Calls Try.prog 82 #[.agg #[.slice (some ⟨b, off, none⟩) l.length cap], .int .i64 x, .int .i64 y] w (RetInts w (tabF l x y)) := by
  by_cases h : two l x y = true
  · obtain ⟨m, A, B, hm, rfl, rfl, rfl, hA, hB⟩ := two_iff.1 h
    rw [tabF_yes hm hA hB]
    exact sumTable_yes _ _ _ _ _ _ _ hm hA hB hg
  · have hn : two l x y = false := by simpa using h
    rw [tabF_no hn]
    have hst := St.init cap 27 hg
    have hst1 := hst.step ((Below.refl _ _).alloc (Nat.le_refl _) (.cells #[.int .i64 x, .int .i64 y] 3))
    have hg2 := GrpAt.two (w.alloc (.cells #[.slice (some ⟨b, off, none⟩) l.length cap] 27)) x y 3 (w.heap.size + 1) (by simp)
    go_enter Try.func82, Try.ntmps82
    go_wp2_with fail
    refine (areSets_two _ _ _ _ _ _ _ _ _ hl hst1.grp hg2).mono ?_; rintro e w1 ⟨rfl, hb1⟩; have hst2 := hst1.step hb1
    clear h hst hst1 hg2 hb1 hg
    have hfin := hid (Growing.start hst2.below hst2.below.size #[] rfl)
    go_wp2
    go_ret
    exact hfin.out.ret
set_option maxHeartbeats 400000 in
theorem sSumTable_any (b off cap : Nat) (l : List Int) (x y : Int) (w : World) (hl : l.length ≤ 1099511627776) (hg : GrpAt w b off l) :
    Calls Try.prog 80 #[.agg #[.slice (some ⟨b, off, none⟩) l.length cap], .int .i64 x, .int .i64 y] w (RetInts w (tabF l x y)) := by
  by_cases h : two l x y = true
  · obtain ⟨m, A, B, hm, rfl, rfl, rfl, hA, hB⟩ := two_iff.1 h
    rw [tabF_yes hm hA hB]
    exact sSumTable_yes _ _ _ _ _ _ _ hm hA hB hg
  · have hn : two l x y = false := by simpa using h
    rw [tabF_no hn]
    have hst := St.init cap 27 hg
    clear h
    rcases two_no hn with h1 | ⟨h1, h2⟩
    all_goals
      go_enter Try.func80, Try.ntmps80
      go_wp2_with (first | (go_at_call 48; refine (sIsSet_any _ _ _ _ _ _ hl (St.grp (by assumption))).mono ?_; rintro e wN ⟨rfl, hbN⟩; have hstN := St.step (by assumption) hbN; have hboxN := hstN.box; clear hbN))
      have hfin := hid (Growing.start (w := w) (w0 := wN) (St.below (by assumption)) (Below.size (St.below (by assumption))) #[] rfl)
      go_ret
      exact hfin.out.ret
end Go.Proofs.Ytggjbicllnppkaa
