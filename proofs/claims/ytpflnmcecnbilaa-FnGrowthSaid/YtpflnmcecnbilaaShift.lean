/-
  Contracts: a set moved by an element.
-/
import Derived.Test.YtpflnmcecnbilaaMem
import Derived.Test.YtpflnmcecnbilaaSet
namespace Go.Proofs.Ytpflnmcecnbilaa
open Go.RowKit

/-- a set so far, as the loops build it -/
theorem ofL_or {L : List Nat} {x : Nat} (hL : ∀ i ∈ L, i < 24) (hx : x < 24) : bits BinOp.or IntKind.i64 ((ofL L : Nat) : Int) ((pw x : Nat) : Int) = ((ofL (L ++ [x]) : Nat) : Int) := by
  rw [ofL_snoc]
  exact bits_or_nat _ _ (by have := ofL_bound hL; omega) (by have := (pw_le (x := x) (by omega)).2; omega)
theorem map_add24 {m : List Nat} (hm : Ok m) (x : Nat) (L : List Nat) : ∀ i ∈ L.map (fun y => addN m x y), i < 24 := fun i hi => by
  simp only [List.mem_map] at hi; obtain ⟨y, _, rfl⟩ := hi; exact hm.add24 x y
set_option maxHeartbeats 400000 in
theorem shift_any (b off cap : Nat) (m : List Nat) (A x : Nat) (w : World) (hm : Ok m) (hA : A < 16777216) (hx : x ≤ 16777216) (hg : GrpAt w b off (cst m)) :
    Calls Try.prog 158 #[.agg #[.slice (some ⟨b, off, none⟩) (cst m).length cap], .int .i64 A, .int .i64 x] w fun e w' => e = .returned (.int .i64 (shiftN m A x : Nat)) ∧ Below w.heap.size w w' := by
  have hst := St.init cap 26 hg
  go_enter Try.func158, Try.ntmps158
  go_wp2
  go_loopw [7, 8] (fun o i wr => ∃ k : Nat, i = .int .i64 k ∧ k ≤ 24 ∧ o = .int .i64 (ofL ((memTo A k).map fun y => addN m x y) : Nat) ∧ St w b off cap (cst m) wr) (fun _ i _ => 24 - (intOf i).toNat)
  case atStart => exact ⟨0, rfl, by omega, rfl, hst⟩
  case round =>
    rename_i wr
    obtain ⟨k, rfl, hk, rfl, hstr⟩ := hrel
    by_cases hz : A >>> k = 0
    · have hne := shr_ne_no hz
      have hend : Hid (ofL ((memTo A k).map fun y => addN m x y) = shiftN m A x) := by unfold Hid; rw [memTo_end hz hk]; rfl
      generalize ofL ((memTo A k).map fun y => addN m x y) = O at *
      go_wp2
      go_ret
      exact ⟨ret_i (by rw [hend.out]), hstr.below⟩
    · have hne := shr_ne_yes hz
      have hk24 := shr_lt (k := k) hA hz
      have hbox := hstr.box
      by_cases ht : A.testBit k = true
      · have htb : (bits BinOp.and IntKind.i64 ((A : Int) / 2 ^ k) 1 == 1) = true := by rw [shr_test k hA]; exact ht
        have hs := hm.add24 x k
        have hor := hid (ofL_or (map_add24 hm x (memTo A k)) hs)
        have hyes : Hid ((memTo A (k + 1)).map (fun y => addN m x y) = (memTo A k).map (fun y => addN m x y) ++ [addN m x k]) := by unfold Hid; rw [memTo_yes ht, List.map_append]; rfl
        have hsh := shl1 (x := addN m x k) (by omega)
        have hpl := pw_le (x := addN m x k) (by omega)
        generalize hO : (memTo A k).map (fun y => addN m x y) = OL at *
        clear hO
        go_wp2_with (go_at_call 137; refine (add_any _ _ _ _ _ _ _ hm hx (by omega) hstr.grp).mono ?_; rintro e w1 ⟨rfl, hb1⟩; have hst1 := hstr.step hb1; clear hb1)
        go_roundw
        case rel => exact ⟨k + 1, by go_num, by omega, by rw [hyes.out, ← hor.out], hst1⟩
        case measure => simp [intOf]; omega
      · have hf : A.testBit k = false := by simpa using ht
        have htb : (bits BinOp.and IntKind.i64 ((A : Int) / 2 ^ k) 1 == 1) = false := by rw [shr_test k hA]; exact hf
        have hno : Hid (memTo A (k + 1) = memTo A k) := memTo_no hf
        go_wp2
        go_roundw
        case rel => exact ⟨k + 1, by go_num, by omega, by rw [hno.out], hstr⟩
        case measure => simp [intOf]; omega
theorem mem_getD_lt {A k : Nat} (hk : k < (cst (mem A)).length) : (mem A).getD k 0 < 24 := mem_lt (getD_mem (mem A) 0 k (by rw [← cst_length]; exact hk))
set_option maxHeartbeats 400000 in
theorem l3Shift_any (b off cap : Nat) (m : List Nat) (A x : Nat) (w : World) (hm : Ok m) (hA : A < 16777216) (hx : x ≤ 16777216) (hg : GrpAt w b off (cst m)) :
    Calls Try.prog 159 #[.agg #[.slice (some ⟨b, off, none⟩) (cst m).length cap], .int .i64 A, .int .i64 x] w fun e w' => e = .returned (.int .i64 (shiftN m A x : Nat)) ∧ Below w.heap.size w w' := by
  have hst := St.init cap 26 hg
  have hL24 : (cst (mem A)).length ≤ 24 := by rw [cst_length]; exact card_le A
  go_enter Try.func159, Try.ntmps159
  go_wp2_with fail
  refine (l3List_any A _ hA).mono ?_; rintro e w1 ⟨g, gc, rfl, hmade⟩
  have hst1 := hst.step hmade.below
  have hstl : StL w b off cap (cst m) g (cst (mem A)) w1 := ⟨hst1, hmade.grp⟩
  clear hmade hst hst1 hg
  go_wp2
  go_loopw [7, 9] (fun o i wr => ∃ k : Nat, i = .int .i64 k ∧ k ≤ (cst (mem A)).length ∧ o = .int .i64 (ofL (((mem A).take k).map fun y => addN m x y) : Nat) ∧ StL w b off cap (cst m) g (cst (mem A)) wr) (fun _ i _ => (cst (mem A)).length - (intOf i).toNat)
  case atStart => exact ⟨0, rfl, by omega, rfl, hstl⟩
  case round =>
    rename_i wr
    obtain ⟨k, rfl, hk, rfl, hstr⟩ := hrel
    by_cases hlt : k < (cst (mem A)).length
    · obtain ⟨y, hy⟩ : ∃ y, Hid ((mem A).getD k 0 = y) := ⟨_, rfl⟩
      have hy24 : y < 24 := by rw [← hy.out]; exact mem_getD_lt hlt
      have hs := hm.add24 x y
      have hor := hid (ofL_or (map_add24 hm x ((mem A).take k)) hs)
      have hyes : Hid (((mem A).take (k + 1)).map (fun y => addN m x y) = ((mem A).take k).map (fun y => addN m x y) ++ [addN m x y]) := by unfold Hid; rw [take_snoc (mem A) 0 k (by rw [← cst_length]; exact hlt), List.map_append, hy.out]; rfl
      have hcomm := addN_comm m y x
      have hsh := hid (shl1k (x := addN m x y) (by omega))
      have hst0 := hstr.drew.hold hlt hy
      generalize hO : ((mem A).take k).map (fun y => addN m x y) = OL at *
      generalize hQ : addN m x y = q at *
      clear hO hQ hstr
      go_wp2
      go_region_held3 (fun w' => w'.cell? ⟨w.heap.size, 0, none⟩ = some (.slice (some ⟨b, off, none⟩) (cst m).length cap) ∧ w'.cell? ⟨g, k, none⟩ = some (.int .i64 (y : Int)) ∧ StL w b off cap (cst m) g (cst (mem A)) w') (first | exact hst0 | exact StL.keep (by assumption) hlt hy hb1)
        (first | (go_at_call 146; refine (l2Add_any _ _ _ _ _ _ _ hm (by omega) hx (StL.grpOf (by assumption))).mono ?_; rintro e w1 ⟨rfl, hb1⟩))
      have hst2 : StL w b off cap (cst m) g (cst (mem A)) w1 := And.right (And.right (by assumption))
      go_wp2
      go_roundw
      case rel => exact ⟨k + 1, by go_num, by omega, by rw [hyes.out, ← hor.out, hsh.out], hst2⟩
      case measure => simp [intOf]; omega
    · have hend : Hid (ofL (((mem A).take k).map fun y => addN m x y) = shiftN m A x) := by unfold Hid; rw [List.take_of_length_le (by rw [← cst_length]; omega)]; rfl
      generalize ofL (((mem A).take k).map fun y => addN m x y) = O at *
      go_wp2
      go_ret
      exact ⟨ret_i (by rw [hend.out]), hstr.st.below⟩
end Go.Proofs.Ytpflnmcecnbilaa
