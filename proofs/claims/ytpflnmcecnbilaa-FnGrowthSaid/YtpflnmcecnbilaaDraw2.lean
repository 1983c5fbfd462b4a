/-
  Contracts of the reference's drawing: groups, elements, sets.
-/
import Derived.Test.YtpflnmcecnbilaaDraw
import Derived.Test.YtpflnmcecnbilaaCnt
import Derived.Deep.RegionHeld3
namespace Go.Proofs.Ytpflnmcecnbilaa
open Go.RowKit

/-- a call that draws a group into new memory -/
def DrewG (w : World) (C : Nat) (e : Ending) (w' : World) : Prop := ∃ b cap l, e = .returned (.agg #[.slice (some ⟨b, 0, none⟩) (l : List Int).length cap]) ∧ w.heap.size ≤ b ∧ l.length ≤ 4 ∧ GrpAt w' b 0 l ∧ Drew w C w'

/-! ### blocks laid one behind the other -/
def layAll (w : World) : List (List Int) → World
  | [] => w
  | L :: r => layAll (w.alloc (.cells (L.map (Value.int .i64)).toArray 3)) r
def slcs (b : Nat) : List (List Int) → List Value
  | [] => []
  | L :: r => .slice (some ⟨b, 0, none⟩) L.length L.length :: slcs (b + 1) r
theorem slcs_get : ∀ (Ls : List (List Int)) (b z : Nat), z < Ls.length → (slcs b Ls)[z]? = some (.slice (some ⟨b + z, 0, none⟩) (Ls.getD z []).length (Ls.getD z []).length)
  | [], _, z, h => by simp at h
  | L :: r, b, 0, _ => by simp [slcs]
  | L :: r, b, z + 1, h => by
    rw [slcs, List.getElem?_cons_succ, slcs_get r (b + 1) z (by simpa using h), List.getD_cons_succ, show b + 1 + z = b + (z + 1) from by omega]
theorem layAll_below : ∀ (Ls : List (List Int)) (w : World), Below w.heap.size w (layAll w Ls) ∧ (layAll w Ls).heap.size = w.heap.size + Ls.length
  | [], w => ⟨Below.refl _ _, rfl⟩
  | L :: r, w => by
    obtain ⟨h1, h2⟩ := layAll_below r (w.alloc (.cells (L.map (Value.int .i64)).toArray 3))
    refine ⟨((Below.refl _ _).alloc (Nat.le_refl _) _).trans (h1.mono (by simp)), ?_⟩
    rw [layAll, h2]; simp; omega
theorem grp_new (w : World) (L : List Int) (t : TypeId) : GrpAt (w.alloc (.cells (L.map (Value.int .i64)).toArray t)) w.heap.size 0 L :=
  ⟨by simp, fun i hi => by
    rw [World.cell?_alloc_at _ _ _ _ rfl, Nat.zero_add]
    simp [List.getD_eq_getElem?_getD, List.getElem?_eq_getElem hi]⟩
theorem layAll_grp : ∀ (Ls : List (List Int)) (w : World) (z : Nat), z < Ls.length → GrpAt (layAll w Ls) (w.heap.size + z) 0 (Ls.getD z [])
  | [], _, z, h => by simp at h
  | L :: r, w, 0, _ => by
    have h := (grp_new w L 3).below (layAll_below r _).1
    simpa [layAll] using h
  | L :: r, w, z + 1, h => by
    have h := layAll_grp r (w.alloc (.cells (L.map (Value.int .i64)).toArray 3)) z (by simpa using h)
    rw [layAll, List.getD_cons_succ]
    rw [show w.heap.size + (z + 1) = (w.alloc (.cells (L.map (Value.int .i64)).toArray 3)).heap.size + z from by simp; omega]
    exact h
theorem news_at {w : World} {b : Nat} {L : List Int} (h : GrpAt w b 0 L) : ∀ j u, L[j]? = some u → w.cell? ⟨b, j, none⟩ = some (.int .i64 u) := fun j u hu => by
  have hj : j < L.length := by
    rcases Nat.lt_or_ge j L.length with hj | hj
    · exact hj
    · rw [List.getElem?_eq_none hj] at hu; cases hu
  rw [h.cell0 j hj, List.getD_eq_getElem?_getD, hu]; rfl
def drawLs : List (List Int) := [[], [2], [3], [4], [5], [6], [7], [8], [9], [10], [11], [12], [2, 2], [2, 4], [3, 3], [2, 6], [2, 2, 2], [13], [16], [4, 4], [2, 2, 3], [2, 3], [24]]
theorem drawLs_len : ∀ z, z < 23 → (drawLs.getD z []).length ≤ 3 := by decide
theorem draw_tab (w : World) (t1 t2 : TypeId) : ∃ W, Hid (((layAll (w.alloc (.cells #[.slice none 0 0] t1)) drawLs).alloc (.cells (slcs (w.heap.size + 1) drawLs).toArray t2)) = W) ∧ Below w.heap.size w W ∧ w.heap.size < W.heap.size ∧
    W.cell? ⟨w.heap.size, 0, none⟩ = some (.slice none 0 0) ∧ W.frozen? ⟨w.heap.size, 0, none⟩ = false ∧ w.heap.size + 1 + 1 + 1 + 1 + 1 + 1 + 1 + 1 + 1 + 1 + 1 + 1 + 1 + 1 + 1 + 1 + 1 + 1 + 1 + 1 + 1 + 1 + 1 + 1 < W.heap.size ∧
    ∀ z, z < 23 → ∃ b L, W.cell? ⟨w.heap.size + 1 + 1 + 1 + 1 + 1 + 1 + 1 + 1 + 1 + 1 + 1 + 1 + 1 + 1 + 1 + 1 + 1 + 1 + 1 + 1 + 1 + 1 + 1 + 1, z, none⟩ = some (.slice (some ⟨b, 0, none⟩) (L : List Int).length L.length) ∧ L.length ≤ 3 ∧ w.heap.size ≤ b ∧ GrpAt W b 0 L := by
  refine ⟨_, rfl, ?_⟩
  have hb1 := (Below.refl w.heap.size w).alloc (Nat.le_refl _) (.cells #[.slice none 0 0] t1)
  obtain ⟨hb2, hs2⟩ := layAll_below drawLs (w.alloc (.cells #[.slice none 0 0] t1))
  have hs1 : (w.alloc (.cells #[.slice none 0 0] t1)).heap.size = w.heap.size + 1 := by simp
  have hl : drawLs.length = 23 := rfl
  have hb3 := (Below.refl (layAll (w.alloc (.cells #[.slice none 0 0] t1)) drawLs).heap.size (layAll (w.alloc (.cells #[.slice none 0 0] t1)) drawLs)).alloc (Nat.le_refl _) (.cells (slcs (w.heap.size + 1) drawLs).toArray t2)
  have hc0 : (w.alloc (.cells #[.slice none 0 0] t1)).cell? ⟨w.heap.size, 0, none⟩ = some (.slice none 0 0) := by rw [World.cell?_alloc_at _ _ _ _ rfl]; rfl
  have hf0 : (w.alloc (.cells #[.slice none 0 0] t1)).frozen? ⟨w.heap.size, 0, none⟩ = false := by rw [World.frozen?_alloc_at _ _ _ _ rfl]
  have hg := layAll_grp drawLs (w.alloc (.cells #[.slice none 0 0] t1))
  have hnew : ∀ z, ((layAll (w.alloc (.cells #[.slice none 0 0] t1)) drawLs).alloc (.cells (slcs (w.heap.size + 1) drawLs).toArray t2)).cell? ⟨(layAll (w.alloc (.cells #[.slice none 0 0] t1)) drawLs).heap.size, z, none⟩ = (slcs (w.heap.size + 1) drawLs)[z]? := fun z => by
    rw [World.cell?_alloc_at _ _ _ _ rfl]; simp
  have hsz : ((layAll (w.alloc (.cells #[.slice none 0 0] t1)) drawLs).alloc (.cells (slcs (w.heap.size + 1) drawLs).toArray t2)).heap.size = (layAll (w.alloc (.cells #[.slice none 0 0] t1)) drawLs).heap.size + 1 := by simp
  generalize (layAll (w.alloc (.cells #[.slice none 0 0] t1)) drawLs).alloc (.cells (slcs (w.heap.size + 1) drawLs).toArray t2) = W at *
  generalize layAll (w.alloc (.cells #[.slice none 0 0] t1)) drawLs = W2 at *
  generalize w.alloc (.cells #[.slice none 0 0] t1) = W1 at *
  have hb23 : Below W1.heap.size W1 W := hb2.trans (hb3.mono hb2.size)
  refine ⟨hb1.trans (hb23.mono hb1.size), by omega, ?_, ?_, by omega, fun z hz => ?_⟩
  · rw [hb23.cell (p := ⟨w.heap.size, 0, none⟩) (by show w.heap.size < _; omega)]; exact hc0
  · rw [hb23.frozen (p := ⟨w.heap.size, 0, none⟩) (by show w.heap.size < _; omega)]; exact hf0
  · refine ⟨w.heap.size + 1 + z, drawLs.getD z [], ?_, drawLs_len z hz, by omega, ?_⟩
    · rw [show w.heap.size + 1 + 1 + 1 + 1 + 1 + 1 + 1 + 1 + 1 + 1 + 1 + 1 + 1 + 1 + 1 + 1 + 1 + 1 + 1 + 1 + 1 + 1 + 1 + 1 = W2.heap.size from by omega, hnew z, slcs_get _ _ _ (by omega)]
    · rw [← hs1]; exact (hg z (by omega)).below hb3
set_option maxRecDepth 4000 in
set_option maxHeartbeats 1000000 in
theorem l2Draw_any (C : Nat) (most : Int) (w : World) (hc : Cur w C) :
    Calls Try.prog 168 #[.pointer (some ⟨C, 0, none⟩), .int .i64 most] w (DrewG w C) := by
  obtain ⟨i0, hi, hz0, hz1, hz2⟩ := info_parts info_int
  obtain ⟨W, hW, hbW, hsW, hrc, hrf, hGs, htab⟩ := draw_tab w 26 24
  have hCw := hc.lt
  go_enter Try.func168, Try.ntmps168
  go_wp2_with fail
  change Calls Try.prog 125 _ ((layAll (w.alloc (.cells #[.slice none 0 0] 26)) drawLs).alloc (.cells (slcs (w.heap.size + 1) drawLs).toArray 24)) _
  rw [hW.out]
  clear hW
  refine (l1Below_any C 23 W (by omega) (by omega) (hc.step hbW)).mono ?_; rintro e w1 ⟨z, hz, rfl, hd⟩
  obtain ⟨b, L, hcz, hL3, hbb, hgL⟩ := htab z hz
  have hcz1 := (hd.at (b := w.heap.size + 1 + 1 + 1 + 1 + 1 + 1 + 1 + 1 + 1 + 1 + 1 + 1 + 1 + 1 + 1 + 1 + 1 + 1 + 1 + 1 + 1 + 1 + 1 + 1) (j := z) hGs (by omega)).trans hcz
  have hg1 := hd.grp hgL (by omega)
  have hrc1 := (hd.at (b := w.heap.size) (j := 0) hsW (by omega)).trans hrc
  have hrf1 := (hd.fz (b := w.heap.size) (j := 0) hsW (by omega)).trans hrf
  have hs1 := Nat.lt_of_lt_of_le hsW hd.gr.size
  have hd0 : Drew w C w1 := ((Drew.refl hc).step hbW).trans hd
  clear htab hcz hgL hrc hrf
  go_wp2_with fail
  go_loop [7, 8] (fun n i => ∃ (k : Nat) (y : Int), k ≤ L.length ∧ i = .int .i64 k ∧ n = .int .i64 y) (fun _ i => L.length - (intOf i).toNat)
  case atStart => exact ⟨0, _, by omega, rfl, rfl⟩
  case round =>
    obtain ⟨k, y, hk, rfl, rfl⟩ := hrel
    by_cases hlt : k < L.length
    · have hck := hg1.cell0 k hlt
      obtain ⟨o, ho⟩ : ∃ o, Hid (L.getD k 0 = o) := ⟨_, rfl⟩
      rw [ho.out] at hck
      go_wp2_with fail
      go_round
      case rel => exact ⟨k + 1, _, by omega, by go_num, rfl⟩
      case measure => simp [intOf]; omega
    · by_cases hm : most < y
      · have hd2 := (hd0.setCell (k := w.heap.size) (j := 0) hCw (Nat.le_refl _) (.slice (some ⟨w1.heap.size, 0, none⟩) 1 1)).alloc (.cells #[.int .i64 5] 3)
        have hg5 := grp_new (w1.setCell ⟨w.heap.size, 0, none⟩ (.slice (some ⟨w1.heap.size, 0, none⟩) 1 1)) [5] 3
        rw [World.size_setCell] at hg5
        have hc5 : ((w1.setCell ⟨w.heap.size, 0, none⟩ (.slice (some ⟨w1.heap.size, 0, none⟩) 1 1)).alloc (.cells #[.int .i64 5] 3)).cell? ⟨w.heap.size, 0, none⟩ = some (.slice (some ⟨w1.heap.size, 0, none⟩) 1 1) := by
          rw [((Below.refl (w1.setCell ⟨w.heap.size, 0, none⟩ (.slice (some ⟨w1.heap.size, 0, none⟩) 1 1)).heap.size _).alloc (Nat.le_refl _) _).cell (p := ⟨w.heap.size, 0, none⟩) (by simpa using hs1)]
          exact setC_eq hrc1
        go_wp2_with fail
        refine bodyPost_ret (v := .agg #[.slice (some ⟨w1.heap.size, 0, none⟩) 1 1]) (by simp [results, Try.results168, go_sem, hc5]) rfl ?_
        exact ⟨w1.heap.size, 1, [5], rfl, by omega, by simp, hg5, hd2⟩
      · have hgr := Growing.start' (w := w1) #[] rfl
        have hg2 := hg1.alloc (.cells #[] 3)
        have hown := hgr.own
        go_wp2_with (at_builtin; refine wpList_append_own _ rfl _ _ 24 rfl w1.heap.size 3 i0 (.int .i64 0) 1 8 Try.underlying24 hi hz0 hz1 hz2 rfl (by decide) _ _ _ rfl hown ⟨b, 0, none⟩ L.length L.length (L.map (Value.int .i64)) rfl ?c0 ?c1 ?c2 ?c3 ?c4 ?c5 ?_)
        case c1 => intro j u hu; exact news_at hg2 j u hu
        case c2 => intro u hu; rfl
        all_goals (try (simp only [maxLen])); (try omega)
        intro v' w2 hown' hgrow hnil
        have hp := hgr.app (l2 := L) (by simpa using hown') hgrow hnil
        rw [List.nil_append] at hp
        obtain ⟨g, cap, rfl, hmd⟩ := hp.form
        clear hown hown' hgrow hnil hgr hg1 hg2 hp
        have hrc2 := (hmd.below.cell (p := ⟨w.heap.size, 0, none⟩) hs1).trans hrc1
        have hrf2 := (hmd.below.frozen (p := ⟨w.heap.size, 0, none⟩) hs1).trans hrf1
        have hd2 := (hd0.step hmd.below).setCell (k := w.heap.size) (j := 0) hCw (Nat.le_refl _) (.slice (some ⟨g, 0, none⟩) L.length cap)
        have hbase := hmd.base
        have hg3 := hmd.grp.setCell (g := w.heap.size) (j := 0) (by omega) (.slice (some ⟨g, 0, none⟩) L.length cap)
        clear hmd
        go_wp2_with fail
        refine bodyPost_ret (v := .agg #[.slice (some ⟨g, 0, none⟩) L.length cap]) (by simp [results, Try.results168, go_sem, hrc2]) rfl ?_
        exact ⟨g, cap, L, rfl, by omega, by omega, hg3, hd2⟩
/-- a cell behind an allocation, another call that draws, and so on -/
theorem cell_alloc {w : World} {b j : Nat} {v : Value} (h : w.cell? ⟨b, j, none⟩ = some v) (hb : b < w.heap.size) (o : Obj) : (w.alloc o).cell? ⟨b, j, none⟩ = some v := (World.cell?_alloc_lt _ _ _ hb).trans h
theorem Drew.store {w wr : World} {C R b cap : Nat} {l : List Int} (hd : Drew w C wr) (hC : C < w.heap.size) (hR : w.heap.size ≤ R) (hb : w.heap.size ≤ b) (hl : l.length ≤ 4) (hg : GrpAt wr b 0 l) (hne : b ≠ R) (v : Value) :
    DrewG w C (.returned (.agg #[.slice (some ⟨b, 0, none⟩) l.length cap])) (wr.setCell ⟨R, 0, none⟩ v) :=
  ⟨b, cap, l, rfl, hb, hl, hg.setCell hne v, hd.setCell hC hR v⟩
/-- a group made anew behind a store into the result's cell -/
theorem DrewG.fresh {w wr : World} {C R : Nat} (hd : Drew w C wr) (hC : C < w.heap.size) (hR : w.heap.size ≤ R) (l : List Int) (hl : l.length ≤ 4) (t : TypeId) (v : Value) (hRl : R < wr.heap.size) (hcR : wr.cell? ⟨R, 0, none⟩ = some (.slice none 0 0)) :
    DrewG w C (.returned (.agg #[.slice (some ⟨wr.heap.size, 0, none⟩) l.length l.length])) ((wr.setCell ⟨R, 0, none⟩ v).alloc (.cells (l.map (Value.int .i64)).toArray t)) ∧ ((wr.setCell ⟨R, 0, none⟩ v).alloc (.cells (l.map (Value.int .i64)).toArray t)).cell? ⟨R, 0, none⟩ = some v := by
  have hg := grp_new (wr.setCell ⟨R, 0, none⟩ v) l t
  rw [World.size_setCell] at hg
  refine ⟨⟨wr.heap.size, l.length, l, rfl, hd.gr.size, hl, hg, (hd.setCell hC hR v).alloc _⟩, ?_⟩
  exact cell_alloc (setC_eq hcR) (by simpa using hRl) _
set_option maxHeartbeats 1000000 in
theorem l2Any_any (C : Nat) (w : World) (hc : Cur w C) :
    Calls Try.prog 144 #[.pointer (some ⟨C, 0, none⟩)] w (DrewG w C) := by
  have hCw := hc.lt
  have hd0 := (Drew.refl hc).alloc (.cells #[.slice none 0 0] 26)
  have hc0 : (w.alloc (.cells #[.slice none 0 0] 26)).cell? ⟨w.heap.size, 0, none⟩ = some (.slice none 0 0) := by rw [World.cell?_alloc_at _ _ _ _ rfl]; rfl
  have hf0 : (w.alloc (.cells #[.slice none 0 0] 26)).frozen? ⟨w.heap.size, 0, none⟩ = false := by rw [World.frozen?_alloc_at _ _ _ _ rfl]
  have hs0 : (w.alloc (.cells #[.slice none 0 0] 26)).heap.size = w.heap.size + 1 := by simp
  go_enter Try.func144, Try.ntmps144
  go_wp2_with fail
  refine (l2Draw_any C _ _ hd0.cur).mono ?_; rintro e w1 ⟨b, cap, l, rfl, hb, hl, hg, hd1⟩
  have hc1 := (hd1.at (b := w.heap.size) (j := 0) (by omega) (by omega)).trans hc0
  have hf1 := (hd1.fz (b := w.heap.size) (j := 0) (by omega) (by omega)).trans hf0
  have hd01 := hd0.trans hd1
  have hs1 := hd1.gr.size
  rw [hs0] at hs1 hb
  clear hc0 hf0 hs0 hd0 hd1
  go_wp2_with fail
  generalize hW2 : w1.alloc (.cells #[.slice (some ⟨b, 0, none⟩) l.length cap] 26) = w2
  have hd02 : Drew w C w2 := by rw [← hW2]; exact hd01.alloc _
  have hc2 : w2.cell? ⟨w.heap.size, 0, none⟩ = some (.slice none 0 0) := by rw [← hW2]; exact cell_alloc hc1 (by omega) _
  have hf2 : w2.frozen? ⟨w.heap.size, 0, none⟩ = false := by rw [← hW2, frozen?_alloc_cells]; exact hf1
  have hcG : w2.cell? ⟨w1.heap.size, 0, none⟩ = some (.slice (some ⟨b, 0, none⟩) l.length cap) := by rw [← hW2, World.cell?_alloc_at _ _ _ _ rfl]; rfl
  have hs2 : w1.heap.size < w2.heap.size := by rw [← hW2]; simp
  have hg2 : GrpAt w2 b 0 l := by rw [← hW2]; exact hg.alloc _
  clear hW2 hc1 hf1 hd01 hg
  refine (l1Below_any C 16 w2 (by omega) (by omega) hd02.cur).mono ?_; rintro e w3 ⟨z, hz, rfl, hd3⟩
  have hc3 := (hd3.at (b := w.heap.size) (j := 0) (by omega) (by omega)).trans hc2
  have hf3 := (hd3.fz (b := w.heap.size) (j := 0) (by omega) (by omega)).trans hf2
  have hcG3 := (hd3.at (b := w1.heap.size) (j := 0) (by omega) (by omega)).trans hcG
  have hg3 := hd3.grp hg2 (by omega)
  have hd03 := hd02.trans hd3
  have hs3 := hd3.gr.size
  have hlt3 : w.heap.size < w3.heap.size := by omega
  have hlt4 : w1.heap.size < w3.heap.size := by omega
  clear hc2 hf2 hcG hg2 hd02 hd3
  by_cases h0 : z = 0
  · subst h0
    have hgp := grp_new w3 [0, 1, -1, 25, 9223372036854775807] 3
    have hd4 := hd03.alloc (.cells #[.int .i64 0, .int .i64 1, .int .i64 (-1), .int .i64 25, .int .i64 9223372036854775807] 3)
    have hc4 := cell_alloc hc3 (by omega) (.cells #[.int .i64 0, .int .i64 1, .int .i64 (-1), .int .i64 25, .int .i64 9223372036854775807] 3)
    have hf4 : (w3.alloc (.cells #[.int .i64 0, .int .i64 1, .int .i64 (-1), .int .i64 25, .int .i64 9223372036854775807] 3)).frozen? ⟨w.heap.size, 0, none⟩ = false := by rw [frozen?_alloc_cells]; exact hf3
    have hs4 : (w3.alloc (.cells #[.int .i64 0, .int .i64 1, .int .i64 (-1), .int .i64 25, .int .i64 9223372036854775807] 3)).heap.size = w3.heap.size + 1 := by simp
    go_wp2_with fail
    refine (l1PickInt_any C w3.heap.size 5 [0, 1, -1, 25, 9223372036854775807] _ (by simp) (by simp) hd4.cur hgp (by omega)).mono ?_; rintro e w5 ⟨k, hk, rfl, hd5⟩
    generalize ([0, 1, -1, 25, 9223372036854775807] : List Int).getD k 0 = x
    have hc5 := (hd5.at (b := w.heap.size) (j := 0) (by omega) (by omega)).trans hc4
    have hf5 := (hd5.fz (b := w.heap.size) (j := 0) (by omega) (by omega)).trans hf4
    have hs5 := hd5.gr.size
    have hlt5 : w.heap.size < w5.heap.size := by omega
    have hfin := DrewG.fresh (hd4.trans hd5) hCw (Nat.le_refl _) [x] (by simp) 3 (.slice (some ⟨w5.heap.size, 0, none⟩) 1 1) (by omega) hc5
    have hfc : ((w5.setCell ⟨w.heap.size, 0, none⟩ (.slice (some ⟨w5.heap.size, 0, none⟩) 1 1)).alloc (.cells #[.int .i64 x] 3)).cell? ⟨w.heap.size, 0, none⟩ = some (.slice (some ⟨w5.heap.size, 0, none⟩) 1 1) := hfin.2
    clear hgp hc4 hf4 hd4 hd5 hc3 hf3 hcG3 hg3 hd03 hs4 hs5
    go_wp2_with fail
    refine bodyPost_ret (v := .agg #[.slice (some ⟨w5.heap.size, 0, none⟩) 1 1]) (by simp [results, Try.results144, go_sem, hfc]) rfl hfin.1
  by_cases h1 : z = 1
  · subst h1
    have hfin := DrewG.fresh hd03 hCw (Nat.le_refl _) [2, 2, 2, 2] (by simp) 3 (.slice (some ⟨w3.heap.size, 0, none⟩) 4 4) (by omega) hc3
    have hfc : ((w3.setCell ⟨w.heap.size, 0, none⟩ (.slice (some ⟨w3.heap.size, 0, none⟩) 4 4)).alloc (.cells #[.int .i64 2, .int .i64 2, .int .i64 2, .int .i64 2] 3)).cell? ⟨w.heap.size, 0, none⟩ = some (.slice (some ⟨w3.heap.size, 0, none⟩) 4 4) := hfin.2
    go_wp2_with fail
    refine bodyPost_ret (v := .agg #[.slice (some ⟨w3.heap.size, 0, none⟩) 4 4]) (by simp [results, Try.results144, go_sem, hfc]) rfl hfin.1
  by_cases h2 : z = 2
  · subst h2
    have hfin := DrewG.fresh hd03 hCw (Nat.le_refl _) [5, 5] (by simp) 3 (.slice (some ⟨w3.heap.size, 0, none⟩) 2 2) (by omega) hc3
    have hfc : ((w3.setCell ⟨w.heap.size, 0, none⟩ (.slice (some ⟨w3.heap.size, 0, none⟩) 2 2)).alloc (.cells #[.int .i64 5, .int .i64 5] 3)).cell? ⟨w.heap.size, 0, none⟩ = some (.slice (some ⟨w3.heap.size, 0, none⟩) 2 2) := hfin.2
    go_wp2_with fail
    refine bodyPost_ret (v := .agg #[.slice (some ⟨w3.heap.size, 0, none⟩) 2 2]) (by simp [results, Try.results144, go_sem, hfc]) rfl hfin.1
  · have b0 : ((z : Int) == 0) = false := by rw [beq_eq_false_iff_ne]; omega
    have b1 : ((z : Int) == 1) = false := by rw [beq_eq_false_iff_ne]; omega
    have b2 : ((z : Int) == 2) = false := by rw [beq_eq_false_iff_ne]; omega
    have hfin := hd03.store hCw (R := w.heap.size) (Nat.le_refl _) (b := b) (cap := cap) (by omega) hl hg3 (by omega) (.slice (some ⟨b, 0, none⟩) l.length cap)
    go_wp2_with fail
    refine bodyPost_ret (v := .agg #[.slice (some ⟨b, 0, none⟩) l.length cap]) (by simp [results, Try.results144, go_sem, hc3]) rfl hfin
end Go.Proofs.Ytpflnmcecnbilaa
