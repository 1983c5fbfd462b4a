/-
  Contracts: the condition of Chowla's bound.
-/
import Derived.Test.YtpflnmcecnbilaaElem
import Derived.Test.YtpflnmcecnbilaaFull
import Derived.Test.YtpflnmcecnbilaaShift
import Derived.Deep.RegionHeld3
namespace Go.Proofs.Ytpflnmcecnbilaa
open Go.RowKit

theorem and1_test {B : Nat} (h : B < 16777216) : (bits BinOp.and IntKind.i64 (B : Int) 1 == 0) = !B.testBit 0 := by
  rw [show (1 : Int) = ((1 : Nat) : Int) from rfl, bits_and_nat _ _ (by omega) (by omega), Nat.and_one_is_mod, Nat.testBit_zero, Bool.eq_iff_iff]; simp; omega
theorem mem_sdiff1 {B x : Nat} : x ∈ mem (sdiff B 1) ↔ x ∈ mem B ∧ x ≠ 0 := by
  have h1 : (1 : Nat).testBit x = decide (0 = x) := testBit_pw 0 x
  simp only [mem, List.mem_filter, List.mem_range, testBit_sdiff, h1, Bool.and_eq_true, Bool.not_eq_true', decide_eq_false_iff_not]
  constructor
  · rintro ⟨a, b, c⟩; exact ⟨⟨a, b⟩, fun e => c e.symm⟩
  · rintro ⟨⟨a, b⟩, c⟩; exact ⟨a, b, fun e => c e.symm⟩
theorem mem_head {B : Nat} (h : B.testBit 0 = true) : ∃ r, mem B = 0 :: r ∧ (∀ x ∈ r, x ≠ 0) := by
  refine ⟨((List.range 23).map Nat.succ).filter fun i => B.testBit i, ?_, fun x hx => ?_⟩
  · unfold mem; rw [show (24 : Nat) = 23 + 1 from rfl, List.range_succ_eq_map, List.filter_cons_of_pos (by simpa using h)]
  · simp only [List.mem_filter, List.mem_map] at hx; obtain ⟨⟨y, _, rfl⟩, _⟩ := hx; simp
def chowB (m : List Nat) (B : Nat) : Bool := (mem B).all fun x => x == 0 || ordE m x == prodN m
theorem chow_no {m : List Nat} {B x : Nat} (hx : x ∈ mem B) (h0 : x ≠ 0) (ho : ¬ ordE m x = prodN m) : chowB m B = false := by
  rw [Bool.eq_false_iff]; intro hc
  unfold chowB at hc; rw [List.all_eq_true] at hc
  have := hc x hx; simp [h0, ho] at this
theorem chow_yes {m : List Nat} {B : Nat} (h : ∀ x ∈ mem B, x ≠ 0 → ordE m x = prodN m) : chowB m B = true := by
  unfold chowB; rw [List.all_eq_true]; intro x hx
  by_cases e : x = 0
  · simp [e]
  · simp [h x hx e]
theorem chow_end {m : List Nat} {B : Nat} (h : ∀ j, j < (mem (sdiff B 1)).length → ordE m ((mem (sdiff B 1)).getD j 0) = prodN m) : chowB m B = true := by
  refine chow_yes fun x hx h0 => ?_
  obtain ⟨j, hj, e⟩ := List.getElem_of_mem (mem_sdiff1.2 ⟨hx, h0⟩)
  have := h j hj
  rwa [List.getD_eq_getElem?_getD, List.getElem?_eq_getElem hj, Option.getD_some, e] at this
theorem chow_tail {B j : Nat} (h : B.testBit 0 = true) (h1 : 1 ≤ j) (hj : j < (mem B).length) : (mem B).getD j 0 ≠ 0 := by
  obtain ⟨r, e, hr⟩ := mem_head h
  rw [e] at hj ⊢
  cases j with
  | zero => omega
  | succ j => simp at hj; simp only [List.getD_cons_succ]; exact hr _ (getD_mem r 0 j hj)
theorem chow_tail_end {m : List Nat} {B : Nat} (hb : B.testBit 0 = true) (h : ∀ j, 1 ≤ j → j < (mem B).length → ordE m ((mem B).getD j 0) = prodN m) : chowB m B = true := by
  refine chow_yes fun x hx h0 => ?_
  obtain ⟨r, e, hr⟩ := mem_head hb
  obtain ⟨j, hj, ej⟩ := List.getElem_of_mem hx
  have e0 : (mem B).getD j 0 = x := by rw [List.getD_eq_getElem?_getD, List.getElem?_eq_getElem hj, Option.getD_some, ej]
  have h1 : 1 ≤ j := by
    cases j with
    | zero => rw [e] at e0; simp at e0; exact (h0 e0.symm).elim
    | succ j => omega
  have := h j h1 hj
  rwa [e0] at this
def chowF (l : List Int) (a b : Int) : Bool := full l a b && b.toNat.testBit 0 && chowB (toN l) b.toNat
theorem chowF_no1 {l : List Int} {a b : Int} (h : full l a b = false) : chowF l a b = false := by simp [chowF, h]
theorem chowF_no2 {l : List Int} {a : Int} {B : Nat} (h : B.testBit 0 = false) : chowF l a B = false := by simp only [chowF, Int.toNat_natCast, h]; simp
theorem chowF_yes {m : List Nat} {A B : Nat} (hf : full (cst m) A B = true) (h : B.testBit 0 = true) : chowF (cst m) A B = chowB m B := by simp only [chowF, hf, toN_cst, Int.toNat_natCast, h]; simp
set_option maxHeartbeats 400000 in
theorem chowlaHolds_any (b off cap : Nat) (l : List Int) (x y : Int) (w : World) (hl : l.length ≤ 1099511627776) (hg : GrpAt w b off l) :
    Calls Try.prog 82 #[.agg #[.slice (some ⟨b, off, none⟩) l.length cap], .int .i64 x, .int .i64 y] w fun e w' => e = .returned (.bool (chowF l x y)) ∧ Below w.heap.size w w' := by
  have hst := St.init cap 26 hg
  by_cases hf : full l x y = true
  · have h3 := full_iff.1 hf
    obtain ⟨m, A, B, hm, rfl, rfl, rfl, hA, hB, hA0, hB0⟩ := h3
    have hA' := Nat.lt_of_lt_of_le hA hm.pow_le
    have hB' := Nat.lt_of_lt_of_le hB hm.pow_le
    have hord := hm.ord
    by_cases hb0 : B.testBit 0 = true
    · have hr := hid (chowF_yes hf hb0)
      have hsd := hid (bits_andNot_nat B 1 (by omega) (by omega))
      have hsl : sdiff B 1 < 16777216 := sdiff_lt (n := 24) hB'
      have hL24 : (cst (mem (sdiff B 1))).length ≤ 24 := by rw [cst_length]; exact card_le _
      have hso : ∀ j, j < (mem (sdiff B 1)).length → (mem (sdiff B 1)).getD j 0 < prodN m ∧ (mem (sdiff B 1)).getD j 0 ∈ mem B ∧ (mem (sdiff B 1)).getD j 0 ≠ 0 := fun j hj => by
        have h1 := mem_sdiff1.1 (getD_mem (mem (sdiff B 1)) 0 j hj)
        exact ⟨mem_of_lt hord hB h1.1, h1.1, h1.2⟩
      have hso := hid hso
      have hend := hid (chow_end (m := m) (B := B))
      clear hA hB hA0 hB0
      go_enter Try.func82, Try.ntmps82
      go_wp2_with (first | (go_at_call 113; refine (areFull_any _ _ _ _ _ _ _ hl (St.grp (by assumption))).mono ?_; rintro e wN ⟨rfl, hbN⟩; have hstN := St.step (by assumption) hbN; have hboxN := hstN.box; clear hbN))
      have hst2 : St w b off cap (cst m) wN := by assumption
      have hin := in_any B 0 wN (by omega) (by omega)
      refine hin.mono ?_; rintro e wM ⟨rfl, rfl⟩
      rw [hb0]
      go_wp2_with fail
      rw [show ((1 : Nat) : Int) = 1 from rfl] at hsd
      rw [hsd.out]
      clear hst hboxN hsd
      generalize sdiff B 1 = S at *
      refine (members_any S _ hsl).mono ?_; rintro e w2 ⟨g, gc, rfl, hmade⟩
      have hstl : StL w b off cap (cst m) g (cst (mem S)) w2 := ⟨hst2.step hmade.below, hmade.grp⟩
      clear hmade hst2 hg
      go_wp2
      go_loopw [23] (fun i wr => ∃ k : Nat, i = .int .i64 k ∧ k ≤ (cst (mem S)).length ∧ Hid (∀ j, j < k → ordE m ((mem S).getD j 0) = prodN m) ∧ StL w b off cap (cst m) g (cst (mem S)) wr) (fun i _ => (cst (mem S)).length - (intOf i).toNat)
      case atStart => exact ⟨0, rfl, by omega, (fun j hj => by omega), hstl⟩
      case round =>
        clear hstl
        rename_i wr
        obtain ⟨k, rfl, hk, hall, hstr⟩ := hrel
        by_cases hlt : k < (cst (mem S)).length
        · have hck := hstr.lst.nat0 k hlt
          obtain ⟨hxo, hxm, hx0⟩ := hso.out k (by rw [← cst_length]; exact hlt)
          obtain ⟨x, hx⟩ : ∃ x, Hid ((mem S).getD k 0 = x) := ⟨_, rfl⟩
          rw [hx.out] at hck hxo hxm hx0
          have hst0 := hstr.drew.hold hlt hx
          clear hstr
          by_cases he : ordE m x = prodN m
          · have heb : (((ordE m x : Nat) : Int) != ((prodN m : Nat) : Int)) = false := by rw [he]; simp
            have hall' : Hid (∀ j, j < k + 1 → ordE m ((mem S).getD j 0) = prodN m) := fun j hj => by
              by_cases e : j = k
              · rw [e, hx.out]; exact he
              · exact hall.out j (by omega)
            clear he hxm hx0
            go_wp2
            go_region_held3 (fun w' => w'.cell? ⟨w.heap.size, 0, none⟩ = some (.slice (some ⟨b, off, none⟩) (cst m).length cap) ∧ w'.cell? ⟨g, k, none⟩ = some (.int .i64 (x : Int)) ∧ StL w b off cap (cst m) g (cst (mem S)) w') (first | exact hst0 | exact StL.keep (by assumption) hlt hx hb1)
              (first | (go_at_call 162; refine (orderOfElement_yes _ _ _ _ _ _ hm hxo (StL.grpOf (by assumption))).mono ?_; rintro e w1 ⟨rfl, hb1⟩) | (go_at_call 130; refine (orderOf_yes _ _ _ _ _ hm (StL.grpOf (by assumption))).mono ?_; rintro e w1 ⟨rfl, hb1⟩))
            have hst2 : StL w b off cap (cst m) g (cst (mem S)) w1 := And.right (And.right (by assumption))
            go_wp2
            go_roundw
            case rel => exact ⟨k + 1, by go_num, by omega, hall', hst2⟩
            case measure => simp [intOf]; omega
          · have heb : (((ordE m x : Nat) : Int) != ((prodN m : Nat) : Int)) = true := by rw [bne_iff_ne]; omega
            have hno := hid (chow_no hxm hx0 he)
            clear he hxm hx0
            go_wp2
            go_region_held3 (fun w' => w'.cell? ⟨w.heap.size, 0, none⟩ = some (.slice (some ⟨b, off, none⟩) (cst m).length cap) ∧ w'.cell? ⟨g, k, none⟩ = some (.int .i64 (x : Int)) ∧ StL w b off cap (cst m) g (cst (mem S)) w') (first | exact hst0 | exact StL.keep (by assumption) hlt hx hb1)
              (first | (go_at_call 162; refine (orderOfElement_yes _ _ _ _ _ _ hm hxo (StL.grpOf (by assumption))).mono ?_; rintro e w1 ⟨rfl, hb1⟩) | (go_at_call 130; refine (orderOf_yes _ _ _ _ _ hm (StL.grpOf (by assumption))).mono ?_; rintro e w1 ⟨rfl, hb1⟩))
            have hst2 : StL w b off cap (cst m) g (cst (mem S)) w1 := And.right (And.right (by assumption))
            go_wp2
            go_ret
            exact ⟨ret_b (by rw [hr.out, hno.out]), hst2.st.below⟩
        · have hy : Hid (chowB m B = true) := hend.out fun j hj => hall.out j (by rw [← cst_length] at hj; omega)
          go_wp2
          go_ret
          exact ⟨ret_b (by rw [hr.out, hy.out]), hstr.st.below⟩
    · have hb1 : B.testBit 0 = false := by simpa using hb0
      have hr := hid (chowF_no2 (l := cst m) (a := (A : Int)) hb1)
      clear hA hB hA0 hB0 hb0
      go_enter Try.func82, Try.ntmps82
      go_wp2_with (first | (go_at_call 113; refine (areFull_any _ _ _ _ _ _ _ hl (St.grp (by assumption))).mono ?_; rintro e wN ⟨rfl, hbN⟩; have hstN := St.step (by assumption) hbN; have hboxN := hstN.box; clear hbN))
      have hst2 : St w b off cap (cst m) wN := by assumption
      have hin := in_any B 0 wN (by omega) (by omega)
      refine hin.mono ?_; rintro e wM ⟨rfl, rfl⟩
      rw [hb1]
      go_wp2
      go_ret
      exact ⟨ret_b (by rw [hr.out]), hst2.below⟩
  · have hf' : full l x y = false := by simpa using hf
    have hr := hid (chowF_no1 hf')
    clear hf
    go_enter Try.func82, Try.ntmps82
    go_wp2_with (first | (go_at_call 113; refine (areFull_any _ _ _ _ _ _ _ hl (St.grp (by assumption))).mono ?_; rintro e wN ⟨rfl, hbN⟩; have hstN := St.step (by assumption) hbN; have hboxN := hstN.box; clear hbN))
    go_ret
    exact ⟨ret_b (by rw [hr.out]), St.below (by assumption)⟩
set_option maxHeartbeats 400000 in
theorem sChowlaHolds_any (b off cap : Nat) (l : List Int) (x y : Int) (w : World) (hl : l.length ≤ 1099511627776) (hg : GrpAt w b off l) :
    Calls Try.prog 83 #[.agg #[.slice (some ⟨b, off, none⟩) l.length cap], .int .i64 x, .int .i64 y] w fun e w' => e = .returned (.bool (chowF l x y)) ∧ Below w.heap.size w w' := by
  have hst := St.init cap 26 hg
  by_cases hf : full l x y = true
  · obtain ⟨y1, y2, y3, y4⟩ := full_yes hf
    have h3 := full_iff.1 hf
    obtain ⟨m, A, B, hm, rfl, rfl, rfl, hA, hB, hA0, hB0⟩ := h3
    have hA' := Nat.lt_of_lt_of_le hA hm.pow_le
    have hB' := Nat.lt_of_lt_of_le hB hm.pow_le
    have hord := hm.ord
    have h1t := and1_test hB'
    by_cases hb0 : B.testBit 0 = true
    · have hr := hid (chowF_yes hf hb0)
      rw [hb0] at h1t
      have hL24 : (cst (mem B)).length ≤ 24 := by rw [cst_length]; exact card_le _
      have hso : Hid (∀ j, 1 ≤ j → j < (mem B).length → (mem B).getD j 0 < prodN m ∧ (mem B).getD j 0 ∈ mem B ∧ (mem B).getD j 0 ≠ 0) := fun j h1 hj =>
        ⟨mem_of_lt hord hB (getD_mem (mem B) 0 j hj), getD_mem (mem B) 0 j hj, chow_tail hb0 h1 hj⟩
      have hend := hid (chow_tail_end (m := m) hb0)
      have hne := hid (mem_head hb0)
      clear hA hB hA0 hB0
      go_enter Try.func83, Try.ntmps83
      go_wp2_with (first | (go_at_call 64; refine (sIsSet_any _ _ _ _ _ _ hl (St.grp (by assumption))).mono ?_; rintro e wN ⟨rfl, hbN⟩; have hstN := St.step (by assumption) hbN; have hboxN := hstN.box; clear hbN))
      have hst2 : St w b off cap (cst m) wN := by assumption
      clear hst hboxN
      refine (l3List_any B _ hB').mono ?_; rintro e w2 ⟨g, gc, rfl, hmade⟩
      have hstl : StL w b off cap (cst m) g (cst (mem B)) w2 := ⟨hst2.step hmade.below, hmade.grp⟩
      have hpos : 1 ≤ (cst (mem B)).length := by obtain ⟨r, e, _⟩ := hne.out; rw [cst_length, e]; simp
      clear hmade hst2 hg hne
      go_wp2
      go_loopw [8] (fun i wr => ∃ k : Nat, i = .int .i64 k ∧ 1 ≤ k ∧ k ≤ (cst (mem B)).length ∧ Hid (∀ j, 1 ≤ j → j < k → ordE m ((mem B).getD j 0) = prodN m) ∧ StL w b off cap (cst m) g (cst (mem B)) wr) (fun i _ => (cst (mem B)).length - (intOf i).toNat)
      case atStart => exact ⟨1, rfl, by omega, hpos, (fun j h1 hj => by omega), hstl⟩
      case round =>
        clear hstl
        rename_i wr
        obtain ⟨k, rfl, hk1, hk, hall, hstr⟩ := hrel
        by_cases hlt : k < (cst (mem B)).length
        · obtain ⟨hxo, hxm, hx0⟩ := hso.out k hk1 (by rw [← cst_length]; exact hlt)
          obtain ⟨x, hx⟩ : ∃ x, Hid ((mem B).getD k 0 = x) := ⟨_, rfl⟩
          rw [hx.out] at hxo hxm hx0
          have hst0 := hstr.drew.hold hlt hx
          clear hstr
          by_cases he : ordE m x = prodN m
          · have heb : (((ordE m x : Nat) : Int) != ((prodN m : Nat) : Int)) = false := by rw [he]; simp
            have hall' : Hid (∀ j, 1 ≤ j → j < k + 1 → ordE m ((mem B).getD j 0) = prodN m) := fun j h1 hj => by
              by_cases e : j = k
              · rw [e, hx.out]; exact he
              · exact hall.out j h1 (by omega)
            clear he hxm hx0
            go_wp2
            go_region_held3 (fun w' => w'.cell? ⟨w.heap.size, 0, none⟩ = some (.slice (some ⟨b, off, none⟩) (cst m).length cap) ∧ w'.cell? ⟨g, k, none⟩ = some (.int .i64 (x : Int)) ∧ StL w b off cap (cst m) g (cst (mem B)) w') (first | exact hst0 | exact StL.keep (by assumption) hlt hx hb1)
              (first | (go_at_call 163; refine (sOrderOfElement_yes _ _ _ _ _ _ hm hxo (StL.grpOf (by assumption))).mono ?_; rintro e w1 ⟨rfl, hb1⟩) | (go_at_call 120; refine (l2Order_any _ _ _ _ _ hm (StL.grpOf (by assumption))).mono ?_; rintro e w1 ⟨rfl, hb1⟩))
            have hst2 : StL w b off cap (cst m) g (cst (mem B)) w1 := And.right (And.right (by assumption))
            go_wp2
            go_roundw
            case rel => exact ⟨k + 1, by go_num, by omega, by omega, hall', hst2⟩
            case measure => simp [intOf]; omega
          · have heb : (((ordE m x : Nat) : Int) != ((prodN m : Nat) : Int)) = true := by rw [bne_iff_ne]; omega
            have hno := hid (chow_no hxm hx0 he)
            clear he hxm hx0
            go_wp2
            go_region_held3 (fun w' => w'.cell? ⟨w.heap.size, 0, none⟩ = some (.slice (some ⟨b, off, none⟩) (cst m).length cap) ∧ w'.cell? ⟨g, k, none⟩ = some (.int .i64 (x : Int)) ∧ StL w b off cap (cst m) g (cst (mem B)) w') (first | exact hst0 | exact StL.keep (by assumption) hlt hx hb1)
              (first | (go_at_call 163; refine (sOrderOfElement_yes _ _ _ _ _ _ hm hxo (StL.grpOf (by assumption))).mono ?_; rintro e w1 ⟨rfl, hb1⟩) | (go_at_call 120; refine (l2Order_any _ _ _ _ _ hm (StL.grpOf (by assumption))).mono ?_; rintro e w1 ⟨rfl, hb1⟩))
            have hst2 : StL w b off cap (cst m) g (cst (mem B)) w1 := And.right (And.right (by assumption))
            go_wp2
            go_ret
            exact ⟨ret_b (by rw [hr.out, hno.out]), hst2.st.below⟩
        · have hy : Hid (chowB m B = true) := hend.out fun j h1 hj => hall.out j h1 (by rw [← cst_length] at hj; omega)
          go_wp2
          go_ret
          exact ⟨ret_b (by rw [hr.out, hy.out]), hstr.st.below⟩
    · have hb1 : B.testBit 0 = false := by simpa using hb0
      have hr := hid (chowF_no2 (l := cst m) (a := (A : Int)) hb1)
      rw [hb1] at h1t
      clear hA hB hA0 hB0 hb0
      go_enter Try.func83, Try.ntmps83
      go_wp2_with (first | (go_at_call 64; refine (sIsSet_any _ _ _ _ _ _ hl (St.grp (by assumption))).mono ?_; rintro e wN ⟨rfl, hbN⟩; have hstN := St.step (by assumption) hbN; have hboxN := hstN.box; clear hbN))
      go_ret
      exact ⟨ret_b (by rw [hr.out]), St.below (by assumption)⟩
  · have hf' : full l x y = false := by simpa using hf
    have hr := hid (chowF_no1 hf')
    clear hf
    rcases full_no hf' with h1 | ⟨h1, h2⟩ | ⟨h1, h2, h3⟩ | ⟨h1, h2, h3, h4⟩
    · go_enter Try.func83, Try.ntmps83
      go_wp2_with (first | (go_at_call 64; refine (sIsSet_any _ _ _ _ _ _ hl (St.grp (by assumption))).mono ?_; rintro e wN ⟨rfl, hbN⟩; have hstN := St.step (by assumption) hbN; have hboxN := hstN.box; clear hbN))
      go_ret
      exact ⟨ret_b (by rw [hr.out]), St.below (by assumption)⟩
    · go_enter Try.func83, Try.ntmps83
      go_wp2_with (first | (go_at_call 64; refine (sIsSet_any _ _ _ _ _ _ hl (St.grp (by assumption))).mono ?_; rintro e wN ⟨rfl, hbN⟩; have hstN := St.step (by assumption) hbN; have hboxN := hstN.box; clear hbN))
      go_ret
      exact ⟨ret_b (by rw [hr.out]), St.below (by assumption)⟩
    · go_enter Try.func83, Try.ntmps83
      go_wp2_with (first | (go_at_call 64; refine (sIsSet_any _ _ _ _ _ _ hl (St.grp (by assumption))).mono ?_; rintro e wN ⟨rfl, hbN⟩; have hstN := St.step (by assumption) hbN; have hboxN := hstN.box; clear hbN))
      go_ret
      exact ⟨ret_b (by rw [hr.out]), St.below (by assumption)⟩
    · have h5 : y = 0 := by simpa using h4
      have h6 : (bits BinOp.and IntKind.i64 (0 : Int) 1 == 0) = true := by decide
      subst h5
      go_enter Try.func83, Try.ntmps83
      go_wp2_with (first | (go_at_call 64; refine (sIsSet_any _ _ _ _ _ _ hl (St.grp (by assumption))).mono ?_; rintro e wN ⟨rfl, hbN⟩; have hstN := St.step (by assumption) hbN; have hboxN := hstN.box; clear hbN))
      go_ret
      exact ⟨ret_b (by rw [hr.out]), St.below (by assumption)⟩
end Go.Proofs.Ytpflnmcecnbilaa
