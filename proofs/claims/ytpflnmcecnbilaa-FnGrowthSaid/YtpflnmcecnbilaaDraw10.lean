/-
  Contracts of the reference's drawing: all subgroups.
-/
import Derived.Test.YtpflnmcecnbilaaDraw9
namespace Go.Proofs.Ytpflnmcecnbilaa
open Go.RowKit

/-- a slice that holds a list of sets -/
structure LstV (wr : World) (g cap : Nat) (L : List Nat) : Prop where
  grp : GrpAt wr g 0 (cst L)
  nums : Nums L
  cap : (cst L).length ≤ cap
theorem LstV.step {wr w1 : World} {g cap : Nat} {L : List Nat} (h : LstV wr g cap L) (hb : Below wr.heap.size wr w1) : LstV w1 g cap L := ⟨h.grp.below hb, h.nums, h.cap⟩
/-- the world inside: the group's box, the list of cyclic subgroups, the list so far -/
structure Sub (w : World) (b off cap : Nat) (l : List Int) (gc cc : Nat) (Lc : List Nat) (go co : Nat) (Lo : List Nat) (wr : World) : Prop where
  st : St w b off cap l wr
  c : LstV wr gc cc Lc
  o : LstV wr go co Lo
section
variable {w wr w1 : World} {b off cap gc cc go co : Nat} {l : List Int} {Lc Lo : List Nat}
theorem Sub.step (h : Sub w b off cap l gc cc Lc go co Lo wr) (hb : Below wr.heap.size wr w1) : Sub w b off cap l gc cc Lc go co Lo w1 := ⟨h.st.step hb, h.c.step hb, h.o.step hb⟩
theorem Sub.hold (h : Sub w b off cap l gc cc Lc go co Lo wr) : wr.cell? ⟨w.heap.size, 0, none⟩ = some (.slice (some ⟨b, off, none⟩) l.length cap) ∧ Sub w b off cap l gc cc Lc go co Lo wr := ⟨h.st.box, h⟩
theorem Sub.hold3 (h : Sub w b off cap l gc cc Lc go co Lo wr) {i k x y : Nat} (hi : i < Lc.length) (hk : k < Lc.length) (hx : Hid (Lc.getD i 0 = x)) (hy : Hid (Lc.getD k 0 = y)) :
    wr.cell? ⟨w.heap.size, 0, none⟩ = some (.slice (some ⟨b, off, none⟩) l.length cap) ∧ wr.cell? ⟨gc, i, none⟩ = some (.int .i64 (x : Int)) ∧ wr.cell? ⟨gc, k, none⟩ = some (.int .i64 (y : Int)) ∧ Sub w b off cap l gc cc Lc go co Lo wr :=
  ⟨h.st.box, by rw [h.c.grp.nat0 i (by rw [cst_length]; exact hi), hx.out], by rw [h.c.grp.nat0 k (by rw [cst_length]; exact hk), hy.out], h⟩
theorem LstV.lt {wr : World} {g cap : Nat} {L : List Nat} (h : LstV wr g cap L) {i : Nat} (hi : i < L.length) : L.getD i 0 < 16777216 := h.nums _ (by rw [List.getD_eq_getElem?_getD, List.getElem?_eq_getElem hi]; exact List.getElem_mem hi)
/-- the same with a third list -/
structure Sub3 (w : World) (b off cap : Nat) (l : List Int) (gc cc : Nat) (Lc : List Nat) (go co : Nat) (Lo : List Nat) (gt ct : Nat) (Lt : List Nat) (wr : World) : Prop where
  s : Sub w b off cap l gc cc Lc go co Lo wr
  t : LstV wr gt ct Lt
variable {gt ct : Nat} {Lt : List Nat}
theorem Sub3.step (h : Sub3 w b off cap l gc cc Lc go co Lo gt ct Lt wr) (hb : Below wr.heap.size wr w1) : Sub3 w b off cap l gc cc Lc go co Lo gt ct Lt w1 := ⟨h.s.step hb, h.t.step hb⟩
theorem Sub3.hold3 (h : Sub3 w b off cap l gc cc Lc go co Lo gt ct Lt wr) {i k x y : Nat} (hi : i < Lt.length) (hk : k < Lc.length) (hx : Hid (Lt.getD i 0 = x)) (hy : Hid (Lc.getD k 0 = y)) :
    wr.cell? ⟨w.heap.size, 0, none⟩ = some (.slice (some ⟨b, off, none⟩) l.length cap) ∧ wr.cell? ⟨gt, i, none⟩ = some (.int .i64 (x : Int)) ∧ wr.cell? ⟨gc, k, none⟩ = some (.int .i64 (y : Int)) ∧ Sub3 w b off cap l gc cc Lc go co Lo gt ct Lt wr :=
  ⟨h.s.st.box, by rw [h.t.grp.nat0 i (by rw [cst_length]; exact hi), hx.out], by rw [h.s.c.grp.nat0 k (by rw [cst_length]; exact hk), hy.out], h⟩
end
def Subs (w : World) (e : Ending) (w' : World) : Prop := ∃ g cap L t, e = .returned (.tuple #[.slice (some ⟨g, 0, none⟩) (cst L).length cap, .bool t]) ∧ (t = true → 1 ≤ L.length) ∧ L.length ≤ 1048576 ∧ LstV w' g cap L ∧ Below w.heap.size w w'
theorem lst_nil (w : World) : LstV (w.alloc (.cells #[] 3)) w.heap.size 0 [] := ⟨⟨by simp, fun i hi => by simp [cst] at hi⟩, fun x hx => (by cases hx), by simp [cst]⟩
set_option maxRecDepth 4000 in
set_option maxHeartbeats 4000000 in
theorem subgroupsOf_any (b off cap : Nat) (l : List Int) (w : World) (hl : l.length ≤ 1099511627776) (hg : GrpAt w b off l) :
    Calls Try.prog 195 #[.agg #[.slice (some ⟨b, off, none⟩) l.length cap]] w (Subs w) := by
  have hst := St.init cap 26 hg
  have hst1 := hst.step ((Below.refl _ _).alloc (Nat.le_refl _) (.cells #[] 3))
  have hn1 := lst_nil (w.alloc (.cells #[.slice (some ⟨b, off, none⟩) l.length cap] 26))
  rw [size_alloc1] at hn1
  have hbox := hst1.box
  clear hst hg
  go_enter Try.func195, Try.ntmps195
  go_wp2_with fail
  refine (sIsGroup_any _ _ _ _ _ hl hst1.grp).mono ?_; rintro e w2 ⟨rfl, hb2⟩
  have hst2 := hst1.step hb2
  have ho2 := hn1.step hb2
  clear hst1 hn1 hb2 hbox
  by_cases hgr : grp l = true
  · rw [hgr]
    obtain ⟨m, hm, rfl⟩ := grp_ok hgr
    clear hgr
    have hst3 := hst2.step ((Below.refl _ _).alloc (Nat.le_refl _) (.cells #[] 3))
    have hc3 := lst_nil w2
    have ho3 := ho2.step ((Below.refl _ _).alloc (Nat.le_refl _) (.cells #[] 3))
    have hbox := hst3.box
    clear hst2 ho2
    go_wp2_with fail
    refine (l2Order_any _ _ _ _ _ hm hst3.grp).mono ?_; rintro e w3 ⟨rfl, hb3⟩
    have hS3 : Sub w b off cap (cst m) w2.heap.size 0 [] (w.heap.size + 1) 0 [] w3 := ⟨hst3.step hb3, hc3.step hb3, ho3.step hb3⟩
    clear hst3 hc3 ho3 hbox hb3
    have hord := hm.ord
    go_wp2_with fail
    go_loopw [5, 7] (fun s x wr => ∃ (g c k : Nat) (Lc : List Nat), s = .slice (some ⟨g, 0, none⟩) (cst Lc).length c ∧ x = .int .i64 k ∧ k ≤ prodN m ∧ Lc.length ≤ k ∧ (1 ≤ k → 1 ≤ Lc.length) ∧ Sub w b off cap (cst m) g c Lc (w.heap.size + 1) 0 [] wr) (fun _ x _ => prodN m - (intOf x).toNat)
    case atStart => exact ⟨_, _, 0, [], rfl, rfl, Nat.zero_le _, Nat.le_refl _, fun h => by omega, hS3⟩
    case round =>
      obtain ⟨g, c, k, Lc, rfl, rfl, hk, hlc, hne, hS⟩ := hrel
      have hbox := hS.st.box
      by_cases hkn : k < prodN m
      · have hsh := shl1 (x := k) (by omega)
        have hsm := shl1m (x := k) (by omega)
        have hsk := shl1k (x := k) (by omega)
        have hpl := pw_le (x := k) (by omega)
        have hpx : pw k < 16777216 := by have := Nat.pow_lt_pow_right (a := 2) (by omega) (show k < 24 by omega); unfold pw; omega
        have hgx : genN m (pw k) < 16777216 := hm.lt24 (genN_lt hm _)
        go_wp2_with fail
        refine wp_region_held_drew (S := fun wx => wx.cell? ⟨w.heap.size, 0, none⟩ = some (.slice (some ⟨b, off, none⟩) (cst m).length cap) ∧ Sub w b off cap (cst m) g c Lc (w.heap.size + 1) 0 [] wx) (by kernel_rfl) (hS.step ((Below.refl _ _).drew)).hold (fun hHeld => ?_)
        (refine wpAnyH_take (i := 0) (oi := ?oi1) (v := ?v1) ?hi1 (by kernel_rfl) (by kernel_rfl) (by kernel_rfl) ?hq1 ?hy1 (by assumption) ?hr1; (case hi1 => ((simp only [List.getElem?_toArray, List.getElem?_cons_zero]); exact rfl)); (case hq1 => exact fun _ _ _ h => h); (case hy1 => (refine Or.inl ⟨by rfl, ?_⟩; (intro w hSw); (try dsimp only at hSw); go_simp; (try with_reducible rfl))); (try simp only [Act.put, List.setIfInBounds_toArray, List.set_cons_zero, List.set_cons_succ])); (refine wpAnyH_take (i := 1) (oi := ?oi2) (v := ?v2) ?hi2 (by kernel_rfl) (by kernel_rfl) (by kernel_rfl) ?hq2 ?hy2 (by assumption) ?hr2; (case hi2 => ((simp only [List.getElem?_toArray, List.getElem?_cons_zero, List.getElem?_cons_succ]); exact rfl)); (case hq2 => exact fun _ _ _ h => h); (case hy2 => (refine Or.inl ⟨by rfl, ?_⟩; (intro w hSw); (try dsimp only at hSw); go_simp; (try with_reducible rfl))); (try simp only [Act.put, List.setIfInBounds_toArray, List.set_cons_zero, List.set_cons_succ])); (refine wpAnyH_take (i := 2) (oi := ?oi3) (v := ?v3) ?hi3 (by kernel_rfl) (by kernel_rfl) (by kernel_rfl) ?hq3 ?hy3 (by assumption) ?hr3; (case hi3 => ((simp only [List.getElem?_toArray, List.getElem?_cons_zero, List.getElem?_cons_succ]); exact rfl)); (case hq3 => exact fun _ _ _ h => h); (case hy3 => (refine Or.inl ⟨by rfl, ?_⟩; (intro w hSw); (try dsimp only at hSw); go_simp; (try with_reducible rfl))); (try simp only [Act.put, List.setIfInBounds_toArray, List.set_cons_zero, List.set_cons_succ])); (refine wpAnyH_take (i := 3) (oi := ?oi4) (v := ?v4) ?hi4 (by kernel_rfl) (by kernel_rfl) (by kernel_rfl) ?hq4 ?hy4 (by assumption) ?hr4; (case hi4 => ((simp only [List.getElem?_toArray, List.getElem?_cons_zero, List.getElem?_cons_succ]); exact rfl)); (case hq4 => exact fun _ _ _ h => h); (case hy4 => (refine Or.inl ⟨by rfl, ?_⟩; (intro w hSw); (try dsimp only at hSw); go_simp; (try with_reducible rfl))); (try simp only [Act.put, List.setIfInBounds_toArray, List.set_cons_zero, List.set_cons_succ]))
        refine wpAnyH_ready (rs := [4]) (by kernel_rfl) (by simp) ?_; refine AllReadyH.cons rfl (fun K hK => ?_) AllReadyH.nil; go_simp
        have hS4 := And.right hHeld
        try rw [hsm]
        refine (l5Closure_any _ _ _ _ _ _ hm hpx hS4.st.grp).mono ?_; rintro e w5 ⟨rfl, hb5⟩
        go_wp2_with fail
        refine hK.out _ _ ?ks (fun hHeld => ?_); (case ks => (exact (hS4.step hb5).hold)); clear hK K; (try simp only [Act.put, List.setIfInBounds_toArray, List.set_cons_zero, List.set_cons_succ])
        refine wpAnyH_ready (rs := [5]) (by kernel_rfl) (by simp) ?_; refine AllReadyH.cons rfl (fun K hK => ?_) AllReadyH.nil; go_simp
        have hS5 := hS4.step hb5
        refine (l5Put_any _ _ _ _ _ hS5.c.cap (by omega) hS5.c.nums hgx hS5.c.grp).mono ?_; rintro e w6 ⟨g6, c6, L6, rfl, hg6, hn6, hc6, hl6, hl7, hl8, hb6⟩
        have hS6 : Sub w b off cap (cst m) g6 c6 L6 (w.heap.size + 1) 0 [] w6 := ⟨hS5.st.step hb6, ⟨hg6, hn6, hc6⟩, hS5.o.step hb6⟩
        go_wp2_with fail
        refine hK.out _ _ ?ks (fun hHeld => ?_); (case ks => (exact (hS5.step hb6).hold)); clear hK K; (try simp only [Act.put, List.setIfInBounds_toArray, List.set_cons_zero, List.set_cons_succ])
        (refine wpAnyH_take (i := 6) (oi := ?oi5) (v := ?v5) ?hi5 (by kernel_rfl) (by kernel_rfl) (by kernel_rfl) ?hq5 ?hy5 (by assumption) ?hr5; (case hi5 => ((simp only [List.getElem?_toArray, List.getElem?_cons_zero, List.getElem?_cons_succ]); exact rfl)); (case hq5 => exact fun _ _ _ h => h); (case hy5 => (refine Or.inl ⟨by rfl, ?_⟩; (intro w hSw); (try dsimp only at hSw); go_simp; (try with_reducible rfl))); (try simp only [Act.put, List.setIfInBounds_toArray, List.set_cons_zero, List.set_cons_succ]))
        refine wpAnyH_done (by kernel_rfl) ?_ _
        go_wp2_with fail
        go_roundw
        case rel => exact ⟨_, _, k + 1, L6, rfl, by go_num, by omega, by omega, fun h => by omega, hS6⟩
        case measure => simp [intOf]; omega
      · obtain rfl : k = prodN m := by omega
        go_wp2_with fail
        go_loopw [4, 8] (fun s x wr => ∃ (go co i : Nat) (Lo : List Nat), s = .slice (some ⟨go, 0, none⟩) (cst Lo).length co ∧ x = .int .i64 i ∧ i ≤ Lc.length ∧ Lo.length ≤ i * 24 ∧ (1 ≤ i → 1 ≤ Lo.length) ∧ Sub w b off cap (cst m) g c Lc go co Lo wr) (fun _ x _ => Lc.length - (intOf x).toNat)
        case atStart => exact ⟨_, _, 0, [], rfl, rfl, Nat.zero_le _, Nat.le_refl _, fun h => by omega, hS⟩
        case round =>
          obtain ⟨go, co, i, Lo, rfl, rfl, hi, hlo, hno, hS⟩ := hrel
          by_cases hin : i < Lc.length
          · have hi0 : i < (cst Lc).length := by rw [cst_length]; exact hin
            have hi2 : (i : Int) < ((cst Lc).length : Int) := by omega
            go_wp2_with fail
            go_loopw [4, 9] (fun s x wr => ∃ (go co k : Nat) (Lo : List Nat), s = .slice (some ⟨go, 0, none⟩) (cst Lo).length co ∧ x = .int .i64 k ∧ k ≤ i + 1 ∧ Lo.length ≤ i * 24 + k ∧ (1 ≤ k → 1 ≤ Lo.length) ∧ Sub w b off cap (cst m) g c Lc go co Lo wr) (fun _ x _ => i + 1 - (intOf x).toNat)
            case atStart => exact ⟨_, _, 0, Lo, rfl, rfl, Nat.zero_le _, hlo, fun h => by omega, hS⟩
            case round =>
              clear hno hlo hS
              obtain ⟨go, co, k, Lo, rfl, rfl, hk2, hlo, hno, hS⟩ := hrel
              by_cases hkn2 : k ≤ i
              · have hi1 : (0 : Int) ≤ (i : Int) := by omega
                have hk1 : (0 : Int) ≤ (k : Int) := by omega
                have hk4 : k < (cst Lc).length := by omega
                have hk3 : (k : Int) < ((cst Lc).length : Int) := by omega
                obtain ⟨x, hx⟩ : ∃ x, Hid (Lc.getD i 0 = x) := ⟨_, rfl⟩
                obtain ⟨y, hy⟩ : ∃ y, Hid (Lc.getD k 0 = y) := ⟨_, rfl⟩
                have hxl : x < 16777216 := by rw [← hx.out]; exact hS.c.lt hin
                have hyl : y < 16777216 := by rw [← hy.out]; exact hS.c.lt (by omega)
                have hsx : sumN m x y < 16777216 := hm.lt24 (hm.sum_lt _ _)
                have hki : k < Lc.length := by omega
                go_wp2_with fail
                refine wp_region_held_drew (S := fun wx => wx.cell? ⟨w.heap.size, 0, none⟩ = some (.slice (some ⟨b, off, none⟩) (cst m).length cap) ∧ wx.cell? ⟨g, i, none⟩ = some (.int .i64 (x : Int)) ∧ wx.cell? ⟨g, k, none⟩ = some (.int .i64 (y : Int)) ∧ Sub w b off cap (cst m) g c Lc go co Lo wx) (by kernel_rfl) ((hS.step ((Below.refl _ _).drew)).hold3 hin hki hx hy) (fun hHeld => ?_)
                (refine wpAnyH_take (i := 0) (oi := ?oi6) (v := ?v6) ?hi6 (by kernel_rfl) (by kernel_rfl) (by kernel_rfl) ?hq6 ?hy6 (by assumption) ?hr6; (case hi6 => ((simp only [List.getElem?_toArray, List.getElem?_cons_zero]); exact rfl)); (case hq6 => exact fun _ _ _ h => h); (case hy6 => (refine Or.inl ⟨by rfl, ?_⟩; (intro w hSw); (try dsimp only at hSw); go_simp; (try with_reducible rfl))); (try simp only [Act.put, List.setIfInBounds_toArray, List.set_cons_zero, List.set_cons_succ])); (refine wpAnyH_take (i := 1) (oi := ?oi7) (v := ?v7) ?hi7 (by kernel_rfl) (by kernel_rfl) (by kernel_rfl) ?hq7 ?hy7 (by assumption) ?hr7; (case hi7 => ((simp only [List.getElem?_toArray, List.getElem?_cons_zero, List.getElem?_cons_succ]); exact rfl)); (case hq7 => exact fun _ _ _ h => h); (case hy7 => (refine Or.inl ⟨by rfl, ?_⟩; (intro w hSw); (try dsimp only at hSw); go_simp; (try with_reducible rfl))); (try simp only [Act.put, List.setIfInBounds_toArray, List.set_cons_zero, List.set_cons_succ])); (refine wpAnyH_take (i := 2) (oi := ?oi8) (v := ?v8) ?hi8 (by kernel_rfl) (by kernel_rfl) (by kernel_rfl) ?hq8 ?hy8 (by assumption) ?hr8; (case hi8 => ((simp only [List.getElem?_toArray, List.getElem?_cons_zero, List.getElem?_cons_succ]); exact rfl)); (case hq8 => exact fun _ _ _ h => h); (case hy8 => (refine Or.inl ⟨by rfl, ?_⟩; (intro w hSw); (try dsimp only at hSw); go_simp; (try with_reducible rfl))); (try simp only [Act.put, List.setIfInBounds_toArray, List.set_cons_zero, List.set_cons_succ])); (refine wpAnyH_take (i := 3) (oi := ?oi9) (v := ?v9) ?hi9 (by kernel_rfl) (by kernel_rfl) (by kernel_rfl) ?hq9 ?hy9 (by assumption) ?hr9; (case hi9 => ((simp only [List.getElem?_toArray, List.getElem?_cons_zero, List.getElem?_cons_succ]); exact rfl)); (case hq9 => exact fun _ _ _ h => h); (case hy9 => (refine Or.inl ⟨by rfl, ?_⟩; (intro w hSw); (try dsimp only at hSw); go_simp; (try with_reducible rfl))); (try simp only [Act.put, List.setIfInBounds_toArray, List.set_cons_zero, List.set_cons_succ])); (refine wpAnyH_take (i := 4) (oi := ?oi10) (v := ?v10) ?hi10 (by kernel_rfl) (by kernel_rfl) (by kernel_rfl) ?hq10 ?hy10 (by assumption) ?hr10; (case hi10 => ((simp only [List.getElem?_toArray, List.getElem?_cons_zero, List.getElem?_cons_succ]); exact rfl)); (case hq10 => exact fun _ _ _ h => h); (case hy10 => (refine Or.inl ⟨by rfl, ?_⟩; (intro w hSw); (try dsimp only at hSw); go_simp; (try with_reducible rfl))); (try simp only [Act.put, List.setIfInBounds_toArray, List.set_cons_zero, List.set_cons_succ])); (refine wpAnyH_take (i := 5) (oi := ?oi11) (v := ?v11) ?hi11 (by kernel_rfl) (by kernel_rfl) (by kernel_rfl) ?hq11 ?hy11 (by assumption) ?hr11; (case hi11 => ((simp only [List.getElem?_toArray, List.getElem?_cons_zero, List.getElem?_cons_succ]); exact rfl)); (case hq11 => exact fun _ _ _ h => h); (case hy11 => (refine Or.inl ⟨by rfl, ?_⟩; (intro w hSw); (try dsimp only at hSw); go_simp; (try with_reducible rfl))); (try simp only [Act.put, List.setIfInBounds_toArray, List.set_cons_zero, List.set_cons_succ])); (refine wpAnyH_take (i := 6) (oi := ?oi12) (v := ?v12) ?hi12 (by kernel_rfl) (by kernel_rfl) (by kernel_rfl) ?hq12 ?hy12 (by assumption) ?hr12; (case hi12 => ((simp only [List.getElem?_toArray, List.getElem?_cons_zero, List.getElem?_cons_succ]); exact rfl)); (case hq12 => exact fun _ _ _ h => h); (case hy12 => (refine Or.inl ⟨by rfl, ?_⟩; (intro w hSw); (try dsimp only at hSw); go_simp; (try with_reducible rfl))); (try simp only [Act.put, List.setIfInBounds_toArray, List.set_cons_zero, List.set_cons_succ])); (refine wpAnyH_take (i := 7) (oi := ?oi13) (v := ?v13) ?hi13 (by kernel_rfl) (by kernel_rfl) (by kernel_rfl) ?hq13 ?hy13 (by assumption) ?hr13; (case hi13 => ((simp only [List.getElem?_toArray, List.getElem?_cons_zero, List.getElem?_cons_succ]); exact rfl)); (case hq13 => exact fun _ _ _ h => h); (case hy13 => (refine Or.inl ⟨by rfl, ?_⟩; (intro w hSw); (try dsimp only at hSw); go_simp; (try with_reducible rfl))); (try simp only [Act.put, List.setIfInBounds_toArray, List.set_cons_zero, List.set_cons_succ])); (refine wpAnyH_take (i := 8) (oi := ?oi14) (v := ?v14) ?hi14 (by kernel_rfl) (by kernel_rfl) (by kernel_rfl) ?hq14 ?hy14 (by assumption) ?hr14; (case hi14 => ((simp only [List.getElem?_toArray, List.getElem?_cons_zero, List.getElem?_cons_succ]); exact rfl)); (case hq14 => exact fun _ _ _ h => h); (case hy14 => (refine Or.inl ⟨by rfl, ?_⟩; (intro w hSw); (try dsimp only at hSw); go_simp; (try with_reducible rfl))); (try simp only [Act.put, List.setIfInBounds_toArray, List.set_cons_zero, List.set_cons_succ])); (refine wpAnyH_take (i := 9) (oi := ?oi15) (v := ?v15) ?hi15 (by kernel_rfl) (by kernel_rfl) (by kernel_rfl) ?hq15 ?hy15 (by assumption) ?hr15; (case hi15 => ((simp only [List.getElem?_toArray, List.getElem?_cons_zero, List.getElem?_cons_succ]); exact rfl)); (case hq15 => exact fun _ _ _ h => h); (case hy15 => (refine Or.inl ⟨by rfl, ?_⟩; (intro w hSw); (try dsimp only at hSw); go_simp; (try with_reducible rfl))); (try simp only [Act.put, List.setIfInBounds_toArray, List.set_cons_zero, List.set_cons_succ]))
                refine wpAnyH_ready (rs := [10]) (by kernel_rfl) (by simp) ?_; refine AllReadyH.cons rfl (fun K hK => ?_) AllReadyH.nil; go_simp
                have hS4 := And.right (And.right (And.right hHeld))
                refine (l4Sum_any _ _ _ _ _ _ _ hm hxl hyl hS4.st.grp).mono ?_; rintro e w5 ⟨rfl, hb5⟩
                go_wp2_with fail
                refine hK.out _ _ ?ks (fun hHeld => ?_); (case ks => (exact (hS4.step hb5).hold3 hin hki hx hy)); clear hK K; (try simp only [Act.put, List.setIfInBounds_toArray, List.set_cons_zero, List.set_cons_succ])
                refine wpAnyH_ready (rs := [11]) (by kernel_rfl) (by simp) ?_; refine AllReadyH.cons rfl (fun K hK => ?_) AllReadyH.nil; go_simp
                have hS5 := hS4.step hb5
                refine (l5Put_any _ _ _ _ _ hS5.o.cap (by omega) hS5.o.nums hsx hS5.o.grp).mono ?_; rintro e w6 ⟨g6, c6, L6, rfl, hg6, hn6, hc6, hl6, hl7, hl8, hb6⟩
                have hS6 : Sub w b off cap (cst m) g c Lc g6 c6 L6 w6 := ⟨hS5.st.step hb6, hS5.c.step hb6, ⟨hg6, hn6, hc6⟩⟩
                go_wp2_with fail
                refine hK.out _ _ ?ks (fun hHeld => ?_); (case ks => (exact (hS5.step hb6).hold3 hin hki hx hy)); clear hK K; (try simp only [Act.put, List.setIfInBounds_toArray, List.set_cons_zero, List.set_cons_succ])
                (refine wpAnyH_take (i := 12) (oi := ?oi16) (v := ?v16) ?hi16 (by kernel_rfl) (by kernel_rfl) (by kernel_rfl) ?hq16 ?hy16 (by assumption) ?hr16; (case hi16 => ((simp only [List.getElem?_toArray, List.getElem?_cons_zero, List.getElem?_cons_succ]); exact rfl)); (case hq16 => exact fun _ _ _ h => h); (case hy16 => (refine Or.inl ⟨by rfl, ?_⟩; (intro w hSw); (try dsimp only at hSw); go_simp; (try with_reducible rfl))); (try simp only [Act.put, List.setIfInBounds_toArray, List.set_cons_zero, List.set_cons_succ]))
                refine wpAnyH_done (by kernel_rfl) ?_ _
                go_wp2_with fail
                go_roundw
                case rel => exact ⟨_, _, k + 1, L6, rfl, by go_num, by omega, by omega, fun h => by omega, hS6⟩
                case measure => simp [intOf]; omega
              · obtain rfl : k = i + 1 := by omega
                go_wp2_with fail
                go_roundw
                case rel => exact ⟨_, _, i + 1, Lo, rfl, by go_num, by omega, by omega, fun h => by omega, hS⟩
                case measure => simp [intOf]; omega
          · have hil : i = Lc.length := by omega
            have hi0 : (cst Lc).length ≤ i := by rw [cst_length]; omega
            have hi3 : ((cst Lc).length : Int) ≤ (i : Int) := by omega
            have hi4 : ¬ (i : Int) < ((cst Lc).length : Int) := by omega
            clear hil
            go_wp2_with fail
            clear hi0 hi3 hi4
            have hi24 : i * 24 ≤ 576 := by omega
            have hLo : Lo.length ≤ 576 := by omega
            have hS3 : Sub3 w b off cap (cst m) g c Lc go co Lo go co Lo wr := ⟨hS, hS.o⟩
            clear hS
            have hone : 1 ≤ Lo.length ∨ Lc.length = 0 := by omega
            have hpos := hm.pos
            have hLo1 : 1 ≤ Lo.length := by omega
            clear hone hno hlo hin
            go_loopw [4, 11] (fun s x wr => ∃ (g4 c4 i : Nat) (L4 : List Nat), s = .slice (some ⟨g4, 0, none⟩) (cst L4).length c4 ∧ x = .int .i64 i ∧ i ≤ Lo.length ∧ L4.length ≤ 576 + i * 24 ∧ 1 ≤ L4.length ∧ Sub3 w b off cap (cst m) g c Lc g4 c4 L4 go co Lo wr) (fun _ x _ => Lo.length - (intOf x).toNat)
            case atStart => exact ⟨_, _, 0, Lo, rfl, rfl, Nat.zero_le _, by omega, hLo1, hS3⟩
            case round =>
              clear hS3
              obtain ⟨g4, c4, i, L4, rfl, rfl, hi, hl4, hn4, hS⟩ := hrel
              by_cases hin : i < Lo.length
              · have hi0 : i < (cst Lo).length := by rw [cst_length]; exact hin
                have hi2 : (i : Int) < ((cst Lo).length : Int) := by omega
                have hi1 : (0 : Int) ≤ (i : Int) := by omega
                go_wp2_with fail
                go_loopw [4, 12] (fun s x wr => ∃ (g4 c4 k : Nat) (L4 : List Nat), s = .slice (some ⟨g4, 0, none⟩) (cst L4).length c4 ∧ x = .int .i64 k ∧ k ≤ Lc.length ∧ L4.length ≤ 576 + i * 24 + k ∧ 1 ≤ L4.length ∧ Sub3 w b off cap (cst m) g c Lc g4 c4 L4 go co Lo wr) (fun _ x _ => Lc.length - (intOf x).toNat)
                case atStart => exact ⟨_, _, 0, L4, rfl, rfl, Nat.zero_le _, hl4, hn4, hS⟩
                case round =>
                  clear hl4 hn4 hS
                  obtain ⟨g4, c4, k, L4, rfl, rfl, hk2, hl4, hn4, hS⟩ := hrel
                  by_cases hki : k < Lc.length
                  · have hk1 : (0 : Int) ≤ (k : Int) := by omega
                    have hk4 : k < (cst Lc).length := by rw [cst_length]; exact hki
                    have hk3 : (k : Int) < ((cst Lc).length : Int) := by omega
                    obtain ⟨x, hx⟩ : ∃ x, Hid (Lo.getD i 0 = x) := ⟨_, rfl⟩
                    obtain ⟨y, hy⟩ : ∃ y, Hid (Lc.getD k 0 = y) := ⟨_, rfl⟩
                    have hxl : x < 16777216 := by rw [← hx.out]; exact hS.t.lt hin
                    have hyl : y < 16777216 := by rw [← hy.out]; exact hS.s.c.lt hki
                    have hsx : sumN m x y < 16777216 := hm.lt24 (hm.sum_lt _ _)
                    go_wp2_with fail
                    refine wp_region_held_drew (S := fun wx => wx.cell? ⟨w.heap.size, 0, none⟩ = some (.slice (some ⟨b, off, none⟩) (cst m).length cap) ∧ wx.cell? ⟨go, i, none⟩ = some (.int .i64 (x : Int)) ∧ wx.cell? ⟨g, k, none⟩ = some (.int .i64 (y : Int)) ∧ Sub3 w b off cap (cst m) g c Lc g4 c4 L4 go co Lo wx) (by kernel_rfl) ((hS.step ((Below.refl _ _).drew)).hold3 hin hki hx hy) (fun hHeld => ?_)
                    (refine wpAnyH_take (i := 0) (oi := ?oi17) (v := ?v17) ?hi17 (by kernel_rfl) (by kernel_rfl) (by kernel_rfl) ?hq17 ?hy17 (by assumption) ?hr17; (case hi17 => ((simp only [List.getElem?_toArray, List.getElem?_cons_zero]); exact rfl)); (case hq17 => exact fun _ _ _ h => h); (case hy17 => (refine Or.inl ⟨by rfl, ?_⟩; (intro w hSw); (try dsimp only at hSw); go_simp; (try with_reducible rfl))); (try simp only [Act.put, List.setIfInBounds_toArray, List.set_cons_zero, List.set_cons_succ])); (refine wpAnyH_take (i := 1) (oi := ?oi18) (v := ?v18) ?hi18 (by kernel_rfl) (by kernel_rfl) (by kernel_rfl) ?hq18 ?hy18 (by assumption) ?hr18; (case hi18 => ((simp only [List.getElem?_toArray, List.getElem?_cons_zero, List.getElem?_cons_succ]); exact rfl)); (case hq18 => exact fun _ _ _ h => h); (case hy18 => (refine Or.inl ⟨by rfl, ?_⟩; (intro w hSw); (try dsimp only at hSw); go_simp; (try with_reducible rfl))); (try simp only [Act.put, List.setIfInBounds_toArray, List.set_cons_zero, List.set_cons_succ])); (refine wpAnyH_take (i := 2) (oi := ?oi19) (v := ?v19) ?hi19 (by kernel_rfl) (by kernel_rfl) (by kernel_rfl) ?hq19 ?hy19 (by assumption) ?hr19; (case hi19 => ((simp only [List.getElem?_toArray, List.getElem?_cons_zero, List.getElem?_cons_succ]); exact rfl)); (case hq19 => exact fun _ _ _ h => h); (case hy19 => (refine Or.inl ⟨by rfl, ?_⟩; (intro w hSw); (try dsimp only at hSw); go_simp; (try with_reducible rfl))); (try simp only [Act.put, List.setIfInBounds_toArray, List.set_cons_zero, List.set_cons_succ])); (refine wpAnyH_take (i := 3) (oi := ?oi20) (v := ?v20) ?hi20 (by kernel_rfl) (by kernel_rfl) (by kernel_rfl) ?hq20 ?hy20 (by assumption) ?hr20; (case hi20 => ((simp only [List.getElem?_toArray, List.getElem?_cons_zero, List.getElem?_cons_succ]); exact rfl)); (case hq20 => exact fun _ _ _ h => h); (case hy20 => (refine Or.inl ⟨by rfl, ?_⟩; (intro w hSw); (try dsimp only at hSw); go_simp; (try with_reducible rfl))); (try simp only [Act.put, List.setIfInBounds_toArray, List.set_cons_zero, List.set_cons_succ])); (refine wpAnyH_take (i := 4) (oi := ?oi21) (v := ?v21) ?hi21 (by kernel_rfl) (by kernel_rfl) (by kernel_rfl) ?hq21 ?hy21 (by assumption) ?hr21; (case hi21 => ((simp only [List.getElem?_toArray, List.getElem?_cons_zero, List.getElem?_cons_succ]); exact rfl)); (case hq21 => exact fun _ _ _ h => h); (case hy21 => (refine Or.inl ⟨by rfl, ?_⟩; (intro w hSw); (try dsimp only at hSw); go_simp; (try with_reducible rfl))); (try simp only [Act.put, List.setIfInBounds_toArray, List.set_cons_zero, List.set_cons_succ])); (refine wpAnyH_take (i := 5) (oi := ?oi22) (v := ?v22) ?hi22 (by kernel_rfl) (by kernel_rfl) (by kernel_rfl) ?hq22 ?hy22 (by assumption) ?hr22; (case hi22 => ((simp only [List.getElem?_toArray, List.getElem?_cons_zero, List.getElem?_cons_succ]); exact rfl)); (case hq22 => exact fun _ _ _ h => h); (case hy22 => (refine Or.inl ⟨by rfl, ?_⟩; (intro w hSw); (try dsimp only at hSw); go_simp; (try with_reducible rfl))); (try simp only [Act.put, List.setIfInBounds_toArray, List.set_cons_zero, List.set_cons_succ])); (refine wpAnyH_take (i := 6) (oi := ?oi23) (v := ?v23) ?hi23 (by kernel_rfl) (by kernel_rfl) (by kernel_rfl) ?hq23 ?hy23 (by assumption) ?hr23; (case hi23 => ((simp only [List.getElem?_toArray, List.getElem?_cons_zero, List.getElem?_cons_succ]); exact rfl)); (case hq23 => exact fun _ _ _ h => h); (case hy23 => (refine Or.inl ⟨by rfl, ?_⟩; (intro w hSw); (try dsimp only at hSw); go_simp; (try with_reducible rfl))); (try simp only [Act.put, List.setIfInBounds_toArray, List.set_cons_zero, List.set_cons_succ])); (refine wpAnyH_take (i := 7) (oi := ?oi24) (v := ?v24) ?hi24 (by kernel_rfl) (by kernel_rfl) (by kernel_rfl) ?hq24 ?hy24 (by assumption) ?hr24; (case hi24 => ((simp only [List.getElem?_toArray, List.getElem?_cons_zero, List.getElem?_cons_succ]); exact rfl)); (case hq24 => exact fun _ _ _ h => h); (case hy24 => (refine Or.inl ⟨by rfl, ?_⟩; (intro w hSw); (try dsimp only at hSw); go_simp; (try with_reducible rfl))); (try simp only [Act.put, List.setIfInBounds_toArray, List.set_cons_zero, List.set_cons_succ])); (refine wpAnyH_take (i := 8) (oi := ?oi25) (v := ?v25) ?hi25 (by kernel_rfl) (by kernel_rfl) (by kernel_rfl) ?hq25 ?hy25 (by assumption) ?hr25; (case hi25 => ((simp only [List.getElem?_toArray, List.getElem?_cons_zero, List.getElem?_cons_succ]); exact rfl)); (case hq25 => exact fun _ _ _ h => h); (case hy25 => (refine Or.inl ⟨by rfl, ?_⟩; (intro w hSw); (try dsimp only at hSw); go_simp; (try with_reducible rfl))); (try simp only [Act.put, List.setIfInBounds_toArray, List.set_cons_zero, List.set_cons_succ])); (refine wpAnyH_take (i := 9) (oi := ?oi26) (v := ?v26) ?hi26 (by kernel_rfl) (by kernel_rfl) (by kernel_rfl) ?hq26 ?hy26 (by assumption) ?hr26; (case hi26 => ((simp only [List.getElem?_toArray, List.getElem?_cons_zero, List.getElem?_cons_succ]); exact rfl)); (case hq26 => exact fun _ _ _ h => h); (case hy26 => (refine Or.inl ⟨by rfl, ?_⟩; (intro w hSw); (try dsimp only at hSw); go_simp; (try with_reducible rfl))); (try simp only [Act.put, List.setIfInBounds_toArray, List.set_cons_zero, List.set_cons_succ]))
                    refine wpAnyH_ready (rs := [10]) (by kernel_rfl) (by simp) ?_; refine AllReadyH.cons rfl (fun K hK => ?_) AllReadyH.nil; go_simp
                    have hS4 := And.right (And.right (And.right hHeld))
                    refine (l4Sum_any _ _ _ _ _ _ _ hm hxl hyl hS4.s.st.grp).mono ?_; rintro e w5 ⟨rfl, hb5⟩
                    go_wp2_with fail
                    refine hK.out _ _ ?ks (fun hHeld => ?_); (case ks => (exact (hS4.step hb5).hold3 hin hki hx hy)); clear hK K; (try simp only [Act.put, List.setIfInBounds_toArray, List.set_cons_zero, List.set_cons_succ])
                    refine wpAnyH_ready (rs := [11]) (by kernel_rfl) (by simp) ?_; refine AllReadyH.cons rfl (fun K hK => ?_) AllReadyH.nil; go_simp
                    have hS5 := hS4.step hb5
                    refine (l5Put_any _ _ _ _ _ hS5.s.o.cap (by omega) hS5.s.o.nums hsx hS5.s.o.grp).mono ?_; rintro e w6 ⟨g6, c6, L6, rfl, hg6, hn6, hc6, hl6, hl7, hl8, hb6⟩
                    have hS6 : Sub3 w b off cap (cst m) g c Lc g6 c6 L6 go co Lo w6 := ⟨⟨hS5.s.st.step hb6, hS5.s.c.step hb6, ⟨hg6, hn6, hc6⟩⟩, hS5.t.step hb6⟩
                    go_wp2_with fail
                    refine hK.out _ _ ?ks (fun hHeld => ?_); (case ks => (exact (hS5.step hb6).hold3 hin hki hx hy)); clear hK K; (try simp only [Act.put, List.setIfInBounds_toArray, List.set_cons_zero, List.set_cons_succ])
                    (refine wpAnyH_take (i := 12) (oi := ?oi27) (v := ?v27) ?hi27 (by kernel_rfl) (by kernel_rfl) (by kernel_rfl) ?hq27 ?hy27 (by assumption) ?hr27; (case hi27 => ((simp only [List.getElem?_toArray, List.getElem?_cons_zero, List.getElem?_cons_succ]); exact rfl)); (case hq27 => exact fun _ _ _ h => h); (case hy27 => (refine Or.inl ⟨by rfl, ?_⟩; (intro w hSw); (try dsimp only at hSw); go_simp; (try with_reducible rfl))); (try simp only [Act.put, List.setIfInBounds_toArray, List.set_cons_zero, List.set_cons_succ]))
                    refine wpAnyH_done (by kernel_rfl) ?_ _
                    go_wp2_with fail
                    go_roundw
                    case rel => exact ⟨_, _, k + 1, L6, rfl, by go_num, by omega, by omega, by omega, hS6⟩
                    case measure => simp [intOf]; omega
                  · have hk4 : (cst Lc).length ≤ k := by rw [cst_length]; omega
                    have hk3 : ((cst Lc).length : Int) ≤ (k : Int) := by omega
                    have hk5 : ¬ (k : Int) < ((cst Lc).length : Int) := by omega
                    go_wp2_with fail
                    go_roundw
                    case rel => exact ⟨_, _, i + 1, L4, rfl, by go_num, by omega, by omega, by omega, hS⟩
                    case measure => simp [intOf]; omega
              · have hi0 : (cst Lo).length ≤ i := by rw [cst_length]; omega
                have hi3 : ((cst Lo).length : Int) ≤ (i : Int) := by omega
                have hi4 : ¬ (i : Int) < ((cst Lo).length : Int) := by omega
                go_wp2_with fail
                go_ret2
                exact ⟨_, c4, L4, true, rfl, fun _ => hn4, by omega, hS.s.o, hS.s.st.below⟩
  · have hgr' : grp l = false := by simpa using hgr
    rw [hgr']
    clear hgr
    go_wp2_with fail
    go_ret2
    exact ⟨_, 0, [], false, rfl, fun h => (by cases h), by simp, ho2, hst2.below⟩
end Go.Proofs.Ytpflnmcecnbilaa
