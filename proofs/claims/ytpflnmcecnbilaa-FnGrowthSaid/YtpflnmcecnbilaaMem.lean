/-
  Contracts: bits of a set; the list of a set's elements, in new memory.
-/
import Derived.Test.YtpflnmcecnbilaaBase
namespace Go.Proofs.Ytpflnmcecnbilaa
open Go.RowKit

theorem shr_test {A : Nat} (k : Nat) (hA : A < 16777216) : (bits BinOp.and IntKind.i64 ((A : Int) / 2 ^ k) 1 == 1) = A.testBit k := by
  have h1 : A / 2 ^ k ≤ A := Nat.div_le_self _ _
  have e : ((A : Int) / 2 ^ k) = ((A / 2 ^ k : Nat) : Int) := by simp
  rw [e, show (1 : Int) = ((1 : Nat) : Int) from rfl, bits_and_nat _ _ (by omega) (by omega), Nat.testBit_eq_decide_div_mod_eq]
  rw [Nat.and_one_is_mod, Bool.eq_iff_iff]; simp; omega
theorem shr_test0 {A : Nat} (hA : A < 16777216) : (bits BinOp.and IntKind.i64 (A : Int) 1 == 1) = A.testBit 0 := by
  have := shr_test (A := A) 0 hA; simpa using this
theorem shr_ne_yes {A k : Nat} (h : A >>> k ≠ 0) : ((A : Int) / 2 ^ k != 0) = true := by
  rw [Nat.shiftRight_eq_div_pow] at h
  have e : ((A : Int) / 2 ^ k) = ((A / 2 ^ k : Nat) : Int) := by simp
  rw [e, bne_iff_ne]; omega
theorem shr_ne_no {A k : Nat} (h : A >>> k = 0) : ((A : Int) / 2 ^ k != 0) = false := by
  rw [Nat.shiftRight_eq_div_pow] at h
  have e : ((A : Int) / 2 ^ k) = ((A / 2 ^ k : Nat) : Int) := by simp
  rw [e, h]; rfl
theorem shr_succ (A k : Nat) : ((A >>> k : Nat) : Int) / 2 = ((A >>> (k + 1) : Nat) : Int) := by
  rw [Nat.shiftRight_succ]; omega
theorem testBit_shr0 (A k : Nat) : (A >>> k).testBit 0 = A.testBit k := by simp

/-- a slice of integers in new memory -/
structure Made (w : World) (l : List Int) (g cap : Nat) (w' : World) : Prop where
  below : Below w.heap.size w w'
  base : w.heap.size ≤ g
  own : w'.ownsRow w.heap.size 3 1 (.slice (some ⟨g, 0, none⟩) l.length cap) l.length (l.map (Value.int .i64))
theorem Made.lt {w w' : World} {l : List Int} {g cap : Nat} (h : Made w l g cap w') : g < w'.heap.size := (h.own.lt g rfl).2
theorem Made.cell {w w' : World} {l : List Int} {g cap : Nat} (h : Made w l g cap w') : ∀ i, i < l.length → w'.cell? ⟨g, i, none⟩ = some (.int .i64 (l.getD i 0)) := fun i hi => by
  rw [h.own.cellAt i (by omega)]; simp [List.getD_eq_getElem?_getD, List.getElem?_eq_getElem hi]
theorem Made.grp {w w' : World} {l : List Int} {g cap : Nat} (h : Made w l g cap w') : GrpAt w' g 0 l := ⟨h.lt, fun i hi => by rw [Nat.zero_add]; exact h.cell i hi⟩
theorem GrpAt.cell0 {w : World} {g : Nat} {l : List Int} (h : GrpAt w g 0 l) : ∀ i, i < l.length → w.cell? ⟨g, i, none⟩ = some (.int .i64 (l.getD i 0)) := fun i hi => by
  have := h.cell i hi; rwa [Nat.zero_add] at this
theorem GrpAt.nat0 {w : World} {g : Nat} {m : List Nat} (h : GrpAt w g 0 (cst m)) : ∀ i, i < (cst m).length → w.cell? ⟨g, i, none⟩ = some (.int .i64 ((m.getD i 0 : Nat) : Int)) := fun i hi => by
  rw [h.cell0 i hi, cst_getD]
theorem Made.step {w wr w1 : World} {l : List Int} {g cap : Nat} (h : Made w l g cap wr) (hb : Below wr.heap.size wr w1) : Made w l g cap w1 :=
  ⟨h.below.trans (hb.mono h.below.size), h.base, h.own.kept (row := none) ⟨hb.os, hb.tape, hb.output, hb.size, fun k hk _ => hb.block k hk⟩ (by simp [Value.ownBlock])⟩
theorem Made.alloc {w wr : World} {l : List Int} {g cap : Nat} (h : Made w l g cap wr) (o : Obj) : Made w l g cap (wr.alloc o) := h.step ((Below.refl _ _).alloc (Nat.le_refl _) o)
theorem Made.drew {w wr : World} {l : List Int} {g cap : Nat} (h : Made w l g cap wr) : Made w l g cap wr.drew := h.step (Below.refl _ _).drew
theorem Made.drewN {w wr : World} {l : List Int} {g cap : Nat} (h : Made w l g cap wr) (n : Nat) : Made w l g cap (wr.drewN n) := h.step ⟨rfl, rfl, rfl, Nat.le_refl _, fun _ _ => rfl⟩
theorem Made.frozen {w wr : World} {l : List Int} {g cap : Nat} (h : Made w l g cap wr) (j : Nat) : wr.frozen? ⟨g, j, none⟩ = false := h.own.frozenAt j
theorem Made.store {w wr : World} {l : List Int} {g cap : Nat} (h : Made w l g cap wr) (j : Nat) (x : Int) : Made w (l.set j x) g cap (wr.setCell ⟨g, j, none⟩ (.int .i64 x)) := by
  refine ⟨h.below.setCell h.base _, h.base, ?_⟩
  have := (h.own.stored j (.int .i64 x)).1
  rw [List.length_set, ← List.map_set] at *
  exact this
theorem Made.other {w wr : World} {l : List Int} {g cap b : Nat} (h : Made w l g cap wr) (hb : w.heap.size ≤ b) (hne : b ≠ g) (j : Nat) (u : Value) : Made w l g cap (wr.setCell ⟨b, j, none⟩ u) :=
  ⟨h.below.setCell hb _, h.base, h.own.kept (row := some b) ⟨rfl, rfl, rfl, by simp [World.setCell], fun k hk hk' => Below.heap_setCell _ _ _ _ (fun e => hk' (by simp [e]))⟩ (by simp [Value.ownBlock]; omega)⟩
/-- behind 'make' -/
theorem Made.make {w wr w1 : World} {n : Nat} (h : Below w.heap.size w wr) (hown : w1.ownsRow w.heap.size 3 1 (.slice (some ⟨wr.heap.size, 0, none⟩) n n) n (madeCells #[Value.int .i64 0] n).toList) (hg : wr.grownBy w1 none) : Made w (List.replicate n 0) wr.heap.size n w1 := by
  refine ⟨h.grown hg h.size (fun k hk => by cases hk), h.size, ?_⟩
  have e : (madeCells #[Value.int .i64 0] n).toList = (List.replicate n (0 : Int)).map (Value.int .i64) := by
    rw [toList_madeCells_one]; simp
  rw [e] at hown
  simpa using hown
theorem GrpAt.setCell {w : World} {b off : Nat} {l : List Int} (h : GrpAt w b off l) {g j : Nat} (hne : b ≠ g) (u : Value) : GrpAt (w.setCell ⟨g, j, none⟩ u) b off l := by
  refine ⟨by simpa [World.setCell] using h.blt, fun i hi => ?_⟩
  rw [← h.cell i hi]
  exact World.cell?_of_block (Below.heap_setCell _ _ _ _ (by simpa using hne))

/-- the function returns a slice of these integers, in new memory -/
def RetInts (w : World) (l : List Int) (e : Ending) (w' : World) : Prop := ∃ g cap, e = .returned (.slice (some ⟨g, 0, none⟩) l.length cap) ∧ Made w l g cap w'

/-- the world inside a function that has boxed a group and holds a list -/
structure StL (w : World) (b off cap : Nat) (l : List Int) (g : Nat) (L : List Int) (wr : World) : Prop where
  st : St w b off cap l wr
  lst : GrpAt wr g 0 L
theorem StL.step {w wr w1 : World} {b off cap g : Nat} {l L : List Int} (h : StL w b off cap l g L wr) (hb : Below wr.heap.size wr w1) : StL w b off cap l g L w1 := ⟨h.st.step hb, h.lst.below hb⟩
theorem StL.drew {w wr : World} {b off cap g : Nat} {l L : List Int} (h : StL w b off cap l g L wr) : StL w b off cap l g L wr.drew := ⟨h.st.drew, h.lst.drew⟩
theorem StL.hold {w wr : World} {b off cap g : Nat} {l : List Int} {M : List Nat} {k y : Nat} (h : StL w b off cap l g (cst M) wr) (hk : k < (cst M).length) (hy : Hid (M.getD k 0 = y)) :
    wr.cell? ⟨w.heap.size, 0, none⟩ = some (.slice (some ⟨b, off, none⟩) l.length cap) ∧ wr.cell? ⟨g, k, none⟩ = some (.int .i64 (y : Int)) ∧ StL w b off cap l g (cst M) wr :=
  ⟨h.st.box, by rw [h.lst.nat0 k hk, hy.out], h⟩
theorem StL.keep {w wr w1 : World} {b off cap g : Nat} {l : List Int} {M : List Nat} {k y : Nat} (h : wr.cell? ⟨w.heap.size, 0, none⟩ = some (.slice (some ⟨b, off, none⟩) l.length cap) ∧ wr.cell? ⟨g, k, none⟩ = some (.int .i64 (y : Int)) ∧ StL w b off cap l g (cst M) wr) (hk : k < (cst M).length) (hy : Hid (M.getD k 0 = y)) (hb : Below wr.heap.size wr w1) :
    w1.cell? ⟨w.heap.size, 0, none⟩ = some (.slice (some ⟨b, off, none⟩) l.length cap) ∧ w1.cell? ⟨g, k, none⟩ = some (.int .i64 (y : Int)) ∧ StL w b off cap l g (cst M) w1 :=
  (h.2.2.step hb).hold hk hy
theorem StL.grpOf {w wr : World} {b off cap g k y : Nat} {l : List Int} {M : List Nat} (h : wr.cell? ⟨w.heap.size, 0, none⟩ = some (.slice (some ⟨b, off, none⟩) l.length cap) ∧ wr.cell? ⟨g, k, none⟩ = some (.int .i64 (y : Int)) ∧ StL w b off cap l g (cst M) wr) : GrpAt wr b off l := h.2.2.st.grp

/-- what a loop that appends to its own slice carries -/
structure Growing (w : World) (l : List Int) (v : Value) (wr : World) : Prop where
  below : Below w.heap.size w wr
  own : wr.ownsRow w.heap.size 3 1 v l.length (l.map (Value.int .i64))
  nonnil : v ≠ .slice none 0 0
theorem Growing.form {w wr : World} {l : List Int} {v : Value} (h : Growing w l v wr) : ∃ g cap, v = .slice (some ⟨g, 0, none⟩) l.length cap ∧ Made w l g cap wr := by
  rcases h.own.2 with ⟨rfl, _⟩ | ⟨g, cap, cur, rfl, hb, r⟩
  · exact (h.nonnil rfl).elim
  · exact ⟨g, cap, rfl, h.below, hb, h.own⟩
theorem Growing.ret {w wr : World} {l : List Int} {v : Value} (h : Growing w l v wr) : RetInts w l (.returned v) wr := by
  obtain ⟨g, cap, rfl, hm⟩ := h.form
  exact ⟨g, cap, rfl, hm⟩
theorem Growing.start {w : World} {w0 : World} (h : Below w.heap.size w w0) (hs : w.heap.size ≤ w0.heap.size) (cs : Array Value) (hc : cs.size = 0) : Growing w [] (.slice (some ⟨w0.heap.size, 0, none⟩) 0 0) (w0.alloc (.cells cs 3)) :=
  ⟨h.alloc hs _, World.ownsRow_made w0 cs 0 hs (by decide) (by simp [hc]), by simp⟩
theorem Growing.start' {w : World} (cs : Array Value) (hc : cs.size = 0) : Growing w [] (.slice (some ⟨w.heap.size, 0, none⟩) 0 0) (w.alloc (.cells cs 3)) := Growing.start (Below.refl _ _) (Nat.le_refl _) cs hc
/-- one more element, by the law of append -/
theorem Growing.push {w wr w1 : World} {l : List Int} {v v' : Value} {x : Int} {o : Obj} (h : Growing w l v wr) (hown : w1.ownsRow w.heap.size 3 1 v' (l.length + 1) (l.map (Value.int .i64) ++ [.int .i64 x]))
    (hg : (wr.alloc o).grownBy w1 v.ownBlock) (hn : ¬ v' = .slice none 0 0) : Growing w (l ++ [x]) v' w1 := by
  refine ⟨(h.below.alloc h.below.size o).grown hg (by have := h.below.size; simp; omega) (fun k hk => (h.own.lt k hk).1), by simpa using hown, hn⟩
theorem Growing.step {w wr w1 : World} {l : List Int} {v : Value} (h : Growing w l v wr) (hb : Below wr.heap.size wr w1) : Growing w l v w1 :=
  ⟨h.below.trans (hb.mono h.below.size), h.own.kept (row := none) ⟨hb.os, hb.tape, hb.output, hb.size, fun k hk _ => hb.block k hk⟩ (by cases v.ownBlock <;> simp), h.nonnil⟩
/-- the same where the function has boxed a group: its slice lies behind the box -/
structure GrowB (w : World) (l : List Int) (v : Value) (wr : World) : Prop where
  below : Below w.heap.size w wr
  own : wr.ownsRow (w.heap.size + 1) 3 1 v l.length (l.map (Value.int .i64))
  nonnil : v ≠ .slice none 0 0
theorem GrowB.ret {w wr : World} {l : List Int} {v : Value} (h : GrowB w l v wr) : RetInts w l (.returned v) wr := by
  rcases h.own.2 with ⟨rfl, _⟩ | ⟨g, cap, cur, rfl, hb, r⟩
  · exact (h.nonnil rfl).elim
  · exact ⟨g, cap, rfl, h.below, by omega, h.own.1, .inr ⟨g, cap, cur, rfl, by omega, r⟩⟩
theorem GrowB.start {w w0 : World} (h : Below w.heap.size w w0) (hs : w.heap.size + 1 ≤ w0.heap.size) (n : Nat) (hn : n = w0.heap.size) : GrowB w [] (.slice (some ⟨n, 0, none⟩) 0 0) (w0.alloc (.cells #[] 3)) := by
  subst hn
  exact ⟨h.alloc (by omega) _, World.ownsRow_made w0 #[] 0 hs (by decide) (by simp), by simp⟩
theorem GrowB.push {w wr w1 : World} {l : List Int} {v v' : Value} {x : Int} {o : Obj} (h : GrowB w l v wr) (hown : w1.ownsRow (w.heap.size + 1) 3 1 v' (l.length + 1) (l.map (Value.int .i64) ++ [.int .i64 x]))
    (hg : (wr.alloc o).grownBy w1 v.ownBlock) (hn : ¬ v' = .slice none 0 0) : GrowB w (l ++ [x]) v' w1 := by
  exact ⟨(h.below.alloc h.below.size o).grown hg (by have := h.below.size; simp; omega) (fun k hk => by have := (h.own.lt k hk).1; omega), by simpa using hown, hn⟩
theorem GrowB.step {w wr w1 : World} {l : List Int} {v : Value} (h : GrowB w l v wr) (hb : Below wr.heap.size wr w1) : GrowB w l v w1 :=
  ⟨h.below.trans (hb.mono h.below.size), h.own.kept (row := none) ⟨hb.os, hb.tape, hb.output, hb.size, fun k hk _ => hb.block k hk⟩ (by cases v.ownBlock <;> simp), h.nonnil⟩
/-- the boxed group behind a push -/
theorem St.grown {w wr w1 : World} {b off cap : Nat} {l L : List Int} {v : Value} {o : Obj} (h : St w b off cap l wr) (hbw : b < w.heap.size) (hg : (wr.alloc o).grownBy w1 v.ownBlock) (hgr : GrowB w L v wr) : St w b off cap l w1 := by
  have hs := h.below.size
  have hal : St w b off cap l (wr.alloc o) := h.step ((Below.refl _ _).alloc (Nat.le_refl _) o)
  have hblk : ∀ k, k < (wr.alloc o).heap.size → k ≤ w.heap.size → w1.heap[k]? = (wr.alloc o).heap[k]? := fun k hk hj => hg.block k hk (fun e => by have := (hgr.own.lt k e.symm).1; omega)
  refine ⟨(h.below.alloc hs o).grown hg (by simp; omega) (fun k hk => by have := (hgr.own.lt k hk).1; omega), ?_, ?_, ?_, ?_⟩
  · have h1 := hal.size; have h2 := hg.size; omega
  · rw [← hal.box]; exact World.cell?_of_block (hblk _ hal.size (Nat.le_refl _))
  · exact Nat.lt_of_lt_of_le hal.grp.blt hg.size
  · intro i hi; rw [← hal.grp.cell i hi]; exact World.cell?_of_block (hblk _ hal.grp.blt (Nat.le_of_lt hbw))
theorem info_int : (Try.prog.info? 3).map (fun i => (i.zero, i.size, i.bytes)) = some (some (.int .i64 0), 1, 8) := by kernel_rfl

theorem in_any (A x : Nat) (w : World) (hA : A < 16777216) (_hx : x ≤ 24) :
    Calls Try.prog 138 #[.int .i64 A, .int .i64 x] w fun e w' => e = .returned (.bool (A.testBit x)) ∧ w = w' := by
  have ht := hid (shr_test x hA)
  go_enter Try.func138, Try.ntmps138
  go_wp2
  go_ret
  exact ⟨ret_b ht.out, rfl⟩
theorem mem_getD_lt' {A k : Nat} (hk : k < (mem A).length) : (mem A).getD k 0 < 24 := mem_lt (getD_mem (mem A) 0 k hk)
theorem cst_snoc (m : List Nat) (x : Nat) : cst (m ++ [x]) = cst m ++ [(x : Int)] := by simp [cst]
theorem cst_memTo_len (A k : Nat) : (cst (memTo A k)).length ≤ k := by rw [cst_length]; exact memTo_len A k
set_option maxHeartbeats 400000 in
theorem members_any (A : Nat) (w : World) (hA : A < 16777216) :
    Calls Try.prog 133 #[.int .i64 A] w (RetInts w (cst (mem A))) := by
  obtain ⟨i0, hi, hz0, hz1, hz2⟩ := info_parts info_int
  go_enter Try.func133, Try.ntmps133
  go_wp2
  go_loopw [3, 4] (fun o i wr => ∃ k : Nat, i = .int .i64 k ∧ k ≤ 24 ∧ Growing w (cst (memTo A k)) o wr) (fun _ i _ => 24 - (intOf i).toNat)
  case atStart => exact ⟨0, rfl, by omega, Growing.start' _ rfl⟩
  case round =>
    rename_i wr
    obtain ⟨k, rfl, hk, hgr⟩ := hrel
    by_cases hz : A >>> k = 0
    · have hne := shr_ne_no hz
      have hend : Hid (memTo A k = mem A) := memTo_end hz hk
      go_wp2
      go_ret
      rw [← hend.out]
      exact hgr.ret
    · have hne := shr_ne_yes hz
      have hk24 := shr_lt (k := k) hA hz
      by_cases ht : A.testBit k = true
      · have htb : (bits BinOp.and IntKind.i64 ((A : Int) / 2 ^ k) 1 == 1) = true := by rw [shr_test k hA]; exact ht
        have hyes : Hid (cst (memTo A (k + 1)) = cst (memTo A k) ++ [(k : Int)]) := by unfold Hid; rw [memTo_yes ht, cst_snoc]
        have hlen := cst_memTo_len A k
        have hown := hgr.own
        go_wp2_with (at_builtin; refine wpList_append_own _ rfl _ _ 24 rfl w.heap.size 3 i0 (.int .i64 0) 1 8 Try.underlying24 hi hz0 hz1 hz2 rfl (by decide) _ _ _ rfl (hown.alloc _) ⟨wr.heap.size, 0, none⟩ 1 1 [.int .i64 k] rfl rfl ?c1 ?c2 ?c3 ?c4 ?c5 ?_)
        case c1 => exact cell_one_new _ _ _
        case c2 => intro u hu; simp at hu; subst hu; rfl
        case c3 => simp only [maxLen]; omega
        case c4 => omega
        case c5 => have := hgr.below.size; simp; omega
        intro v' w1 hown' hgrow hnil
        have hp := hid (hgr.push hown' hgrow hnil)
        clear hown hown' hgrow hnil htb
        go_wp2
        go_roundw
        case rel => exact ⟨k + 1, by go_num, by omega, by rw [hyes.out]; exact hp⟩
        case measure => simp [intOf]; omega
      · have hf : A.testBit k = false := by simpa using ht
        have htb : (bits BinOp.and IntKind.i64 ((A : Int) / 2 ^ k) 1 == 1) = false := by rw [shr_test k hA]; exact hf
        have hno : Hid (memTo A (k + 1) = memTo A k) := memTo_no hf
        go_wp2
        go_roundw
        case rel => exact ⟨k + 1, by go_num, by omega, by rw [hno.out]; exact hgr⟩
        case measure => simp [intOf]; omega
set_option maxRecDepth 4000 in
set_option maxHeartbeats 400000 in
theorem l3List_any (A : Nat) (w : World) (hA : A < 16777216) :
    Calls Try.prog 135 #[.int .i64 A] w (RetInts w (cst (mem A))) := by
  obtain ⟨i0, hi, hz0, hz1, hz2⟩ := info_parts info_int
  go_enter Try.func135, Try.ntmps135
  go_wp2
  go_loopw [3, 4, 5] (fun o i x wr => ∃ k X : Nat, i = .int .i64 k ∧ x = .int .i64 X ∧ k ≤ 24 ∧ Hid (X = A >>> k) ∧ Growing w (cst (memTo A k)) o wr) (fun _ i _ _ => 24 - (intOf i).toNat)
  case atStart => exact ⟨0, A, rfl, rfl, by omega, by simp [Hid], Growing.start' _ rfl⟩
  case round =>
    rename_i wr
    obtain ⟨k, X, rfl, rfl, hk, hX, hgr⟩ := hrel
    by_cases hz : A >>> k = 0
    · have hx0 : X ≤ 0 := by have := hX.out; omega
      have hend : Hid (memTo A k = mem A) := memTo_end hz hk
      go_wp2
      go_ret
      rw [← hend.out]
      exact hgr.ret
    · have hx0 : 0 < X := by have := hX.out; omega
      have hk24 := shr_lt (k := k) hA hz
      have hXle : X < 16777216 := by
        have h1 : A >>> k ≤ A := by rw [Nat.shiftRight_eq_div_pow]; exact Nat.div_le_self _ _
        have := hX.out; omega
      have hs : Hid ((X : Int) / 2 = ((A >>> (k + 1) : Nat) : Int)) := by unfold Hid; rw [hX.out]; exact shr_succ A k
      by_cases ht : A.testBit k = true
      · have htb : (bits BinOp.and IntKind.i64 (X : Int) 1 == 1) = true := by rw [shr_test0 hXle, hX.out, testBit_shr0]; exact ht
        have hyes : Hid (cst (memTo A (k + 1)) = cst (memTo A k) ++ [(k : Int)]) := by unfold Hid; rw [memTo_yes ht, cst_snoc]
        have hlen := cst_memTo_len A k
        have hown := hgr.own
        go_wp2_with (at_builtin; refine wpList_append_own _ rfl _ _ 24 rfl w.heap.size 3 i0 (.int .i64 0) 1 8 Try.underlying24 hi hz0 hz1 hz2 rfl (by decide) _ _ _ rfl (hown.alloc _) ⟨wr.heap.size, 0, none⟩ 1 1 [.int .i64 k] rfl rfl ?c1 ?c2 ?c3 ?c4 ?c5 ?_)
        case c1 => exact cell_one_new _ _ _
        case c2 => intro u hu; simp at hu; subst hu; rfl
        case c3 => simp only [maxLen]; omega
        case c4 => omega
        case c5 => have := hgr.below.size; simp; omega
        intro v' w1 hown' hgrow hnil
        have hp := hid (hgr.push hown' hgrow hnil)
        clear hown hown' hgrow hnil htb
        go_wp2
        go_roundw
        case rel => exact ⟨k + 1, A >>> (k + 1), by go_num, val_i hs.out, by omega, rfl, by rw [hyes.out]; exact hp⟩
        case measure => simp [intOf]; omega
      · have hf : A.testBit k = false := by simpa using ht
        have htb : (bits BinOp.and IntKind.i64 (X : Int) 1 == 1) = false := by rw [shr_test0 hXle, hX.out, testBit_shr0]; exact hf
        have hno : Hid (memTo A (k + 1) = memTo A k) := memTo_no hf
        go_wp2
        go_roundw
        case rel => exact ⟨k + 1, A >>> (k + 1), by go_num, val_i hs.out, by omega, rfl, by rw [hno.out]; exact hgr⟩
        case measure => simp [intOf]; omega
end Go.Proofs.Ytpflnmcecnbilaa
