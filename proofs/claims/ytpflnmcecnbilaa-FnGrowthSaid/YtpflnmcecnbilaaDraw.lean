/-
  Contracts of the reference's drawing: the cursor over a code; bytes, numbers below a bound.
-/
import Derived.Test.YtpflnmcecnbilaaLaw3
import Derived.BigQuiet
import Derived.Deep.QuietTactic
namespace Go.Proofs.Ytpflnmcecnbilaa
open Go.RowKit

/-- a slice of bytes that came in -/
def BytesV (w : World) (a : Option Addr) (n : Nat) : Prop := n = 0 ∨ ∃ b off, a = some ⟨b, off, none⟩ ∧ b < w.heap.size ∧ ∀ i, i < n → ∃ z : Nat, z ≤ 255 ∧ w.cell? ⟨b, off + i, none⟩ = some (.int .u8 (z : Int))
/-- a cursor lies in block C -/
def Cur (wr : World) (C : Nat) : Prop := ∃ (a : Option Addr) (n cp i : Nat) (h : Int), C < wr.heap.size ∧ wr.cell? ⟨C, 0, none⟩ = some (.slice a n cp) ∧ wr.cell? ⟨C, 1, none⟩ = some (.int .i64 (i : Int)) ∧ wr.cell? ⟨C, 2, none⟩ = some (.int .i64 h) ∧
  wr.frozen? ⟨C, 1, none⟩ = false ∧ wr.frozen? ⟨C, 2, none⟩ = false ∧ i ≤ n ∧ n ≤ 9223372036854775807 ∧ BytesV wr a n ∧ (∀ b off, a = some ⟨b, off, none⟩ → n = 0 ∨ b < C)
theorem BytesV.below {w w' : World} {a : Option Addr} {n : Nat} (h : BytesV w a n) (hb : Below w.heap.size w w') : BytesV w' a n := by
  rcases h with h | ⟨b, off, ha, hl, hc⟩
  · exact .inl h
  · refine .inr ⟨b, off, ha, Nat.lt_of_lt_of_le hl hb.size, fun i hi => ?_⟩
    obtain ⟨z, hz, e⟩ := hc i hi
    exact ⟨z, hz, by rw [hb.cell (p := ⟨b, off + i, none⟩) hl]; exact e⟩
theorem BytesV.grown {w w1 : World} {a : Option Addr} {n C : Nat} (h : BytesV w a n) (hg : w.grownBy w1 (some C)) (hne : ∀ b off, a = some ⟨b, off, none⟩ → n = 0 ∨ b < C) : BytesV w1 a n := by
  rcases h with h | ⟨b, off, ha, hl, hc⟩
  · exact .inl h
  · rcases hne b off ha with h0 | h0
    · exact .inl h0
    · refine .inr ⟨b, off, ha, Nat.lt_of_lt_of_le hl hg.size, fun i hi => ?_⟩
      obtain ⟨z, hz, e⟩ := hc i hi
      exact ⟨z, hz, by rw [← e]; exact World.cell?_of_block (hg.block _ hl (by simpa using Nat.ne_of_lt h0))⟩
/-- a cursor stands while the blocks up to its own stand -/
theorem Cur.up {wr w1 : World} {C : Nat} (h : Cur wr C) (hb : Below (C + 1) wr w1) : Cur w1 C := by
  obtain ⟨a, n, cp, i, hh, hC, c0, c1, c2, f1, f2, hi, hn, hbv, hne⟩ := h
  refine ⟨a, n, cp, i, hh, Nat.lt_of_lt_of_le hC hb.size, (hb.cell (p := ⟨C, 0, none⟩) (Nat.lt_succ_self C)).trans c0, (hb.cell (p := ⟨C, 1, none⟩) (Nat.lt_succ_self C)).trans c1, (hb.cell (p := ⟨C, 2, none⟩) (Nat.lt_succ_self C)).trans c2, (hb.frozen (p := ⟨C, 1, none⟩) (Nat.lt_succ_self C)).trans f1, (hb.frozen (p := ⟨C, 2, none⟩) (Nat.lt_succ_self C)).trans f2, hi, hn, ?_, hne⟩
  rcases hbv with h | ⟨b, off, ha, hl, hc⟩
  · exact .inl h
  · rcases hne b off ha with h0 | h0
    · exact .inl h0
    · refine .inr ⟨b, off, ha, Nat.lt_of_lt_of_le hl hb.size, fun i hi => ?_⟩
      obtain ⟨z, hz, e⟩ := hc i hi
      exact ⟨z, hz, by rw [hb.cell (p := ⟨b, off + i, none⟩) (Nat.lt_succ_of_lt h0)]; exact e⟩
theorem Cur.lt {w : World} {C : Nat} (h : Cur w C) : C < w.heap.size := by obtain ⟨_, _, _, _, _, hC, _⟩ := h; exact hC
theorem Cur.step {wr w1 : World} {C : Nat} (h : Cur wr C) (hb : Below wr.heap.size wr w1) : Cur w1 C := h.up (hb.mono h.lt)
theorem and255 (x : Int) : ∃ z : Nat, z ≤ 255 ∧ bits .and .i64 x 255 = (z : Int) := by
  have h2 : (BitVec.ofInt 64 (255 : Int)).toNat = 255 := by decide
  have h3 : (BitVec.ofInt 64 x &&& BitVec.ofInt 64 (255 : Int)).toNat ≤ 255 := by rw [BitVec.toNat_and, h2]; exact Nat.and_le_right
  have h5 : bits .and .i64 x 255 = IntKind.i64.wrap ((BitVec.ofInt 64 x &&& BitVec.ofInt 64 (255 : Int)).toNat : Int) := rfl
  refine ⟨_, h3, ?_⟩
  rw [h5, IntKind.wrap_i64]; omega
theorem BytesV.setC {w : World} {a : Option Addr} {n C : Nat} (h : BytesV w a n) (hne : ∀ b off, a = some ⟨b, off, none⟩ → n = 0 ∨ b < C) (j : Nat) (u : Value) : BytesV (w.setCell ⟨C, j, none⟩ u) a n := by
  rcases h with h | ⟨b, off, ha, hl, hc⟩
  · exact .inl h
  · rcases hne b off ha with h0 | h0
    · exact .inl h0
    · refine .inr ⟨b, off, ha, by simpa using hl, fun i hi => ?_⟩
      obtain ⟨z, hz, e⟩ := hc i hi
      exact ⟨z, hz, by rw [← e]; exact World.cell?_of_block (Below.heap_setCell _ _ _ _ (by simpa using Nat.ne_of_lt h0))⟩
theorem setC_ne {w : World} {C i j : Nat} {u : Value} (h : i ≠ j) : (w.setCell ⟨C, i, none⟩ u).cell? ⟨C, j, none⟩ = w.cell? ⟨C, j, none⟩ := by
  apply World.cell?_setCell_other; intro e; exact h (congrArg Addr.off e)
theorem setC_eq {w : World} {C i : Nat} {u v : Value} (h : w.cell? ⟨C, i, none⟩ = some v) : (w.setCell ⟨C, i, none⟩ u).cell? ⟨C, i, none⟩ = some u := by
  apply World.cell?_setCell_same; exact h
/-- a store into the cursor's number or hash -/
theorem grownBy_setC (w : World) (C j : Nat) (u : Value) : w.grownBy (w.setCell ⟨C, j, none⟩ u) (some C) :=
  ⟨rfl, rfl, rfl, by simp, fun k _ hne => Below.heap_setCell _ _ _ _ (by simpa using hne)⟩
theorem Cur.draws {w : World} {C : Nat} (h : Cur w C) (k : Nat) : Cur (w.drewN k) C := h.step ⟨rfl, rfl, rfl, Nat.le_refl _, fun _ _ => rfl⟩
theorem grownBy_draws {w w1 : World} {r : Option Nat} (h : w.grownBy w1 r) (k : Nat) : w.grownBy (w1.drewN k) r := ⟨h.os, h.tape, h.output, h.size, h.block⟩
/-- a call that draws: the cursor stands anew; nothing but its block has turned -/
structure Drew (w : World) (C : Nat) (w' : World) : Prop where
  cur : Cur w' C
  gr : w.grownBy w' (some C)
  c0 : w'.cell? ⟨C, 0, none⟩ = w.cell? ⟨C, 0, none⟩
theorem Drew.trans {w w1 w2 : World} {C : Nat} (h : Drew w C w1) (k : Drew w1 C w2) : Drew w C w2 := ⟨k.cur, h.gr.trans k.gr, k.c0.trans h.c0⟩
theorem Drew.draws {w w1 : World} {C : Nat} (h : Drew w C w1) (k : Nat) : Drew w C (w1.drewN k) := ⟨h.cur.draws k, grownBy_draws h.gr k, h.c0⟩
theorem Drew.refl {w : World} {C : Nat} (h : Cur w C) : Drew w C w := ⟨h, ⟨rfl, rfl, rfl, Nat.le_refl _, fun _ _ _ => rfl⟩, rfl⟩
theorem grownBy_below {w w1 : World} (h : Below w.heap.size w w1) (r : Option Nat) : w.grownBy w1 r := ⟨h.os, h.tape, h.output, h.size, fun k hk _ => h.block k hk⟩
theorem Drew.step {w w1 w2 : World} {C : Nat} (h : Drew w C w1) (hb : Below w1.heap.size w1 w2) : Drew w C w2 := ⟨h.cur.step hb, h.gr.trans (grownBy_below hb _), (hb.cell (p := ⟨C, 0, none⟩) h.cur.lt).trans h.c0⟩
theorem Drew.alloc {w w1 : World} {C : Nat} (h : Drew w C w1) (o : Obj) : Drew w C (w1.alloc o) := h.step ((Below.refl _ _).alloc (Nat.le_refl _) o)
theorem Cur.alloc {w : World} {C : Nat} (h : Cur w C) (o : Obj) : Cur (w.alloc o) C := h.step ((Below.refl _ _).alloc (Nat.le_refl _) o)
/-- a store into a block above the cursor's -/
theorem Drew.setCell {w w1 : World} {C k j : Nat} (h : Drew w C w1) (hC : C < w.heap.size) (hk : w.heap.size ≤ k) (v : Value) : Drew w C (w1.setCell ⟨k, j, none⟩ v) :=
  ⟨h.cur.up ((Below.refl _ _).setCell (show C + 1 ≤ k by omega) v), ⟨h.gr.os, h.gr.tape, h.gr.output, by simpa using h.gr.size, fun i hi hne => (Below.heap_setCell _ _ _ _ (by show i ≠ k; omega)).trans (h.gr.block i hi hne)⟩, (World.cell?_of_block (Below.heap_setCell _ _ _ _ (by show C ≠ k; omega))).trans h.c0⟩
/-- a block that is not the cursor's stays -/
theorem Drew.grp {w w1 : World} {C b off : Nat} {l : List Int} (h : Drew w C w1) (hg : GrpAt w b off l) (hne : b ≠ C) : GrpAt w1 b off l :=
  ⟨Nat.lt_of_lt_of_le hg.blt h.gr.size, fun i hi => by rw [← hg.cell i hi]; exact World.cell?_of_block (h.gr.block _ hg.blt (by simpa using hne))⟩
theorem Drew.cell {w w1 : World} {C : Nat} (h : Drew w C w1) {p : Addr} (hp : p.block < w.heap.size) (hne : p.block ≠ C) : w1.cell? p = w.cell? p := World.cell?_of_block (h.gr.block _ hp (by simpa using hne))
theorem Drew.at {w w1 : World} {C b j : Nat} (h : Drew w C w1) (hp : b < w.heap.size) (hne : b ≠ C) : w1.cell? ⟨b, j, none⟩ = w.cell? ⟨b, j, none⟩ := h.cell (p := ⟨b, j, none⟩) hp hne
theorem Drew.fz {w w1 : World} {C b j : Nat} (h : Drew w C w1) (hp : b < w.heap.size) (hne : b ≠ C) : w1.frozen? ⟨b, j, none⟩ = w.frozen? ⟨b, j, none⟩ := World.frozen?_of_block (h.gr.block _ hp (by simpa using hne))
theorem Drew.below {w0 w w1 : World} {C : Nat} (h : Drew w C w1) (hb : Below w0.heap.size w0 w) (hC : w0.heap.size ≤ C) : Below w0.heap.size w0 w1 :=
  hb.grown h.gr hb.size (fun k hk => by cases hk; exact hC)

set_option maxHeartbeats 1000000 in
theorem l1Byte_any (C : Nat) (w : World) (hc : Cur w C) :
    Calls Try.prog 176 #[.pointer (some ⟨C, 0, none⟩)] w fun e w' => ∃ z : Nat, z ≤ 255 ∧ e = .returned (.int .i64 (z : Int)) ∧ Drew w C w' := by
  obtain ⟨a, n, cp, i, hh, hC, c0, c1, c2, f1, f2, hi, hn, hbv, hne⟩ := hc
  obtain ⟨x, hx, hxe⟩ := and255 (bits BinOp.xor IntKind.i64 (wrap64 (wrap64 (hh * 6364136223846793005) + 1442695040888963407) / 8589934592) (wrap64 (wrap64 (hh * 6364136223846793005) + 1442695040888963407) / 35184372088832))
  obtain ⟨h2, hh2⟩ : ∃ h2, Hid (wrap64 (wrap64 (hh * 6364136223846793005) + 1442695040888963407) = h2) := ⟨_, rfl⟩
  rw [hh2.out] at hxe
  have hbv1 := hbv.setC hne 2 (.int .i64 h2)
  have g1 := grownBy_setC w C 2 (.int .i64 h2)
  have hcw := c0
  have d0 : (w.setCell ⟨C, 2, none⟩ (.int .i64 h2)).cell? ⟨C, 0, none⟩ = some (.slice a n cp) := by rw [setC_ne (by omega)]; exact c0
  have d1 : (w.setCell ⟨C, 2, none⟩ (.int .i64 h2)).cell? ⟨C, 1, none⟩ = some (.int .i64 (i : Int)) := by rw [setC_ne (by omega)]; exact c1
  have d2 : (w.setCell ⟨C, 2, none⟩ (.int .i64 h2)).cell? ⟨C, 2, none⟩ = some (.int .i64 h2) := setC_eq c2
  have e1 : (w.setCell ⟨C, 2, none⟩ (.int .i64 h2)).frozen? ⟨C, 1, none⟩ = false := by simpa using f1
  have e2 : (w.setCell ⟨C, 2, none⟩ (.int .i64 h2)).frozen? ⟨C, 2, none⟩ = false := by simpa using f2
  have hC1 : C < (w.setCell ⟨C, 2, none⟩ (.int .i64 h2)).heap.size := by simpa using hC
  go_enter Try.func176, Try.ntmps176
  go_wp2
  rw [hh2.out]
  generalize w.setCell ⟨C, 2, none⟩ (.int .i64 h2) = w1 at *
  clear hh2 c0 c1 c2 f1 f2
  go_quiet (fail)
  clear hxe
  by_cases hlt : i < n
  · rcases hbv1 with h0 | ⟨b, off, rfl, hb, hcell⟩
    · omega
    obtain ⟨z, hz, hcz⟩ := hcell i hlt
    have hltI : (i : Int) < (n : Int) := by omega
    obtain ⟨y, hy, hye⟩ := and255 ((x : Int) + (z : Int))
    go_wp2
    go_quiet (fail)
    go_wp2
    go_quiet (fail)
    have hcur : Cur (w1.setCell ⟨C, 1, none⟩ (.int .i64 ((i : Int) + 1))) C :=
      ⟨_, n, cp, i + 1, h2, by simpa using hC1, by rw [setC_ne (by omega)]; exact d0, setC_eq d1, by rw [setC_ne (by omega)]; exact d2, by simpa using e1, by simpa using e2, by omega, hn, BytesV.setC (.inr ⟨b, off, rfl, hb, hcell⟩) hne 1 _, hne⟩
    have hgr := g1.trans (grownBy_setC w1 C 1 (.int .i64 ((i : Int) + 1)))
    clear hcell hbv g1 hne hye
    go_wp2
    go_ret
    exact ⟨y, hy, rfl, hcur.draws _, grownBy_draws hgr _, ((setC_ne (by omega)).trans d0).trans hcw.symm⟩
  · have hltI : ¬ (i : Int) < (n : Int) := by omega
    go_wp2
    go_quiet (fail)
    have hcur : Cur w1 C := ⟨a, n, cp, i, h2, hC1, d0, d1, d2, e1, e2, hi, hn, hbv1, hne⟩
    clear hbv hne
    go_wp2
    go_ret
    exact ⟨x, hx, rfl, (hcur.draws _).draws _, grownBy_draws (grownBy_draws g1 _) _, d0.trans hcw.symm⟩
set_option maxHeartbeats 1000000 in
theorem l1Below_any (C n : Nat) (w : World) (hn : 1 ≤ n) (hn2 : n ≤ 4611686018427387904) (hc : Cur w C) :
    Calls Try.prog 125 #[.pointer (some ⟨C, 0, none⟩), .int .i64 (n : Int)] w fun e w' => ∃ z : Nat, z < n ∧ e = .returned (.int .i64 (z : Int)) ∧ Drew w C w' := by
  have h0 : ¬ (n : Int) ≤ 0 := by omega
  by_cases h : n ≤ 256
  · have hI : (n : Int) ≤ 256 := by omega
    go_enter Try.func125, Try.ntmps125
    go_wp2_with fail
    refine (l1Byte_any C w hc).mono ?_; rintro e w1 ⟨z, hz, rfl, hd1⟩
    go_wp2_with fail
    go_ret
    exact ⟨z % n, Nat.mod_lt _ (by omega), rfl, hd1⟩
  · have hI : ¬ (n : Int) ≤ 256 := by omega
    go_enter Try.func125, Try.ntmps125
    go_wp2_with fail
    refine (l1Byte_any C w hc).mono ?_; rintro e w1 ⟨z1, hz1, rfl, hd1⟩
    go_wp2_with fail
    refine (l1Byte_any C w1 hd1.cur).mono ?_; rintro e w2 ⟨z2, hz2, rfl, hd2⟩
    go_wp2_with fail
    refine (l1Byte_any C w2 hd2.cur).mono ?_; rintro e w3 ⟨z3, hz3, rfl, hd3⟩
    go_wp2_with fail
    refine (l1Byte_any C w3 hd3.cur).mono ?_; rintro e w4 ⟨z4, hz4, rfl, hd4⟩
    go_wp2_with fail
    go_ret
    refine ⟨(z1 * 16777216 + z2 * 65536 + z3 * 256 + z4) % n, Nat.mod_lt _ (by omega), ?_, ((hd1.trans hd2).trans hd3).trans hd4⟩
    rw [Int.natCast_emod]
    congr 2
theorem l1Once_any (C n : Nat) (w : World) (hn : 1 ≤ n) (hn2 : n ≤ 4611686018427387904) (hc : Cur w C) :
    Calls Try.prog 169 #[.pointer (some ⟨C, 0, none⟩), .int .i64 (n : Int)] w fun e w' => ∃ t : Bool, e = .returned (.bool t) ∧ Drew w C w' := by
  go_enter Try.func169, Try.ntmps169
  go_wp2_with fail
  refine (l1Below_any C n w hn hn2 hc).mono ?_; rintro e w1 ⟨z, hz, rfl, hd⟩
  go_wp2_with fail
  go_ret
  exact ⟨_, rfl, hd⟩
theorem l1PickInt_any (C g cp : Nat) (L : List Int) (w : World) (hL : 1 ≤ L.length) (hL2 : L.length ≤ 1048576) (hc : Cur w C) (hg : GrpAt w g 0 L) (hne : g ≠ C) :
    Calls Try.prog 126 #[.pointer (some ⟨C, 0, none⟩), .slice (some ⟨g, 0, none⟩) L.length cp] w fun e w' => ∃ z : Nat, z < L.length ∧ e = .returned (.int .i64 (L.getD z 0)) ∧ Drew w C w' := by
  go_enter Try.func126, Try.ntmps126
  go_wp2_with fail
  refine (l1Below_any C L.length w hL (by omega) hc).mono ?_; rintro e w1 ⟨z, hz, rfl, hd⟩
  have hcz := (hd.grp hg hne).cell0 z hz
  obtain ⟨x, hx⟩ : ∃ x, Hid (L.getD z 0 = x) := ⟨_, rfl⟩
  rw [hx.out] at hcz
  go_wp2_with fail
  go_ret
  exact ⟨z, hz, by rw [hx.out]; rfl, hd⟩
theorem cur_code (w : World) (a b c : Value) (t : TypeId) : (w.alloc (.cells #[a, b, c] t)).cell? ⟨w.heap.size, 0, none⟩ = some a := by rw [World.cell?_alloc_at _ _ _ _ rfl]; rfl
theorem Cur.new {w : World} {a : Option Addr} {n cp : Nat} (t : TypeId) (y : Int) (hn : n ≤ 1099511627776) (hb : BytesV w a n) :
    Cur (w.alloc (.cells #[.slice a n cp, .int .i64 0, .int .i64 y] t)) w.heap.size :=
  ⟨a, n, cp, 0, y, by simp, by rw [World.cell?_alloc_at _ _ _ _ rfl]; rfl, by rw [World.cell?_alloc_at _ _ _ _ rfl]; rfl, by rw [World.cell?_alloc_at _ _ _ _ rfl]; rfl, by rw [World.frozen?_alloc_at _ _ _ _ rfl], by rw [World.frozen?_alloc_at _ _ _ _ rfl], by omega, by omega, hb.below ((Below.refl _ _).alloc (Nat.le_refl _) _), fun b off e => by
    subst e
    rcases hb with h | ⟨b', off', e, hl, _⟩
    · exact .inl h
    · simp at e; exact .inr (by omega)⟩
set_option maxHeartbeats 1000000 in
theorem l1New_any (a : Option Addr) (n cp : Nat) (w : World) (hn : n ≤ 1099511627776) (hb : BytesV w a n) :
    Calls Try.prog 124 #[.slice a n cp] w fun e w' => ∃ C, e = .returned (.pointer (some ⟨C, 0, none⟩)) ∧ w.heap.size ≤ C ∧ Below w.heap.size w w' ∧ Cur w' C ∧ w'.cell? ⟨C, 0, none⟩ = some (.slice a n cp) := by
  go_enter Try.func124, Try.ntmps124
  go_wp2_with fail
  go_loop [3, 4] (fun h i => ∃ (k : Nat) (y : Int), k ≤ n ∧ i = .int .i64 k ∧ h = .int .i64 y) (fun _ i => n - (intOf i).toNat)
  case atStart => exact ⟨0, _, by omega, rfl, rfl⟩
  case round =>
    obtain ⟨k, y, hk, rfl, rfl⟩ := hrel
    by_cases hlt : k < n
    · rcases hb with h0 | ⟨b, off, rfl, hbl, hcell⟩
      · omega
      obtain ⟨z, hz, hcz⟩ := hcell k hlt
      have hcell' := hid hcell
      clear hcell
      by_cases h4 : k < 4000
      · have hI : (k : Int) < 4000 := by omega
        go_wp2_with fail
        go_round
        case rel => exact ⟨k + 1, _, by omega, by go_num, rfl⟩
        case measure => simp [intOf]; omega
      · have hI : ¬ (k : Int) < 4000 := by omega
        have hcur := Cur.new (cp := cp) 92 y hn (.inr ⟨b, off, rfl, hbl, hcell'.out⟩)
        go_wp2_with fail
        go_ret
        exact ⟨_, rfl, Nat.le_refl _, (Below.refl _ _).alloc (Nat.le_refl _) _, hcur, cur_code _ _ _ _ _⟩
    · have hcur := Cur.new (cp := cp) 92 y hn hb
      clear hb
      go_wp2_with fail
      go_ret
      exact ⟨_, rfl, Nat.le_refl _, (Below.refl _ _).alloc (Nat.le_refl _) _, hcur, cur_code _ _ _ _ _⟩
end Go.Proofs.Ytpflnmcecnbilaa
