/-
  Contracts: the least step that two sets have in common.
-/
import Derived.Test.YtpflnmcecnbilaaSteps
import Derived.BigQuiet
import Derived.Deep.QuietTactic
namespace Go.Proofs.Ytpflnmcecnbilaa
open Go.RowKit

def hasI (L : List Int) (d : Int) : Bool := decide (d ∈ L)
theorem hasI_yes {L : List Int} {d : Int} {k : Nat} (hk : k < L.length) (h : L.getD k 0 = d) : hasI L d = true := by
  unfold hasI; rw [decide_eq_true_eq, ← h]; exact getD_mem L 0 k hk
theorem hasI_no {L : List Int} {d : Int} (h : ∀ j, j < L.length → ¬ L.getD j 0 = d) : hasI L d = false := by
  unfold hasI; rw [decide_eq_false_iff_not]; intro hc
  obtain ⟨j, hj, rfl⟩ := List.getElem_of_mem hc
  exact h j hj (by simp [List.getD_eq_getElem?_getD, List.getElem?_eq_getElem hj])
def comF (X Y : List Int) : Option Int := X.find? (hasI Y)
theorem comF_yes {Y : List Int} : ∀ {X : List Int} {k : Nat}, k < X.length → (∀ j, j < k → hasI Y (X.getD j 0) = false) → hasI Y (X.getD k 0) = true → comF X Y = some (X.getD k 0)
  | [], k, hk, _, _ => by simp at hk
  | x :: r, 0, _, _, h => by simp at h; simp [comF, h]
  | x :: r, k + 1, hk, hno, h => by
    have h0 := hno 0 (by omega)
    simp at h0
    have ih := comF_yes (Y := Y) (X := r) (k := k) (by simpa using hk) (fun j hj => by have := hno (j + 1) (by omega); simpa using this) (by simpa using h)
    unfold comF at *
    rw [List.find?_cons, h0]
    simpa using ih
theorem comF_no {X Y : List Int} (h : ∀ j, j < X.length → hasI Y (X.getD j 0) = false) : comF X Y = none := by
  unfold comF; rw [List.find?_eq_none]; intro x hx
  obtain ⟨j, hj, rfl⟩ := List.getElem_of_mem hx
  have := h j hj
  simpa [List.getD_eq_getElem?_getD, List.getElem?_eq_getElem hj] using this
def comA (l : List Int) (a b : Int) : Int := (comF (difsF l a) (difsF l b)).getD 0
def comB (l : List Int) (a b : Int) : Bool := (comF (difsF l a) (difsF l b)).isSome
theorem ret_ib' {a a' : Int} {b b' : Bool} (h1 : a = a') (h2 : b = b') : Ending.returned (.tuple #[.int .i64 a, .bool b]) = .returned (.tuple #[.int .i64 a', .bool b']) := by rw [h1, h2]
set_option maxHeartbeats 400000 in
theorem index_any (g cap : Nat) (L : List Int) (d : Int) (w : World) (hL : L.length ≤ 1048576) (hg : GrpAt w g 0 L) :
    Calls Try.prog 178 #[.slice (some ⟨g, 0, none⟩) L.length cap, .int .i64 d] w fun e w' => ∃ r : Int, e = .returned (.int .i64 r) ∧ (0 ≤ r ↔ hasI L d = true) ∧ w = w' := by
  go_enter Try.func178, Try.ntmps178
  go_wp2
  go_loop [8] (fun i => ∃ k : Nat, i = .int .i64 k ∧ k ≤ L.length ∧ Hid (∀ j, j < k → ¬ L.getD j 0 = d)) (fun i => L.length - (intOf i).toNat)
  case atStart => exact ⟨0, rfl, by omega, fun j hj => by omega⟩
  case round =>
    obtain ⟨k, rfl, hk, hno⟩ := hrel
    by_cases hlt : k < L.length
    · have hc := hg.cell0 k hlt
      by_cases he : L.getD k 0 = d
      · have hy := hid (hasI_yes hlt he)
        rw [he] at hc
        clear he
        go_wp2
        go_ret
        exact ⟨k, rfl, ⟨fun _ => hy.out, fun _ => by omega⟩, rfl⟩
      · have hno' : Hid (∀ j, j < k + 1 → ¬ L.getD j 0 = d) := fun j hj => by
          by_cases e : j = k
          · rw [e]; exact he
          · exact hno.out j (by omega)
        have hne : (d == L.getD k 0) = false := by rw [beq_eq_false_iff_ne]; exact fun e => he e.symm
        clear he
        generalize L.getD k 0 = y at *
        go_wp2
        go_round
        case rel => exact ⟨k + 1, by go_num, by omega, hno'⟩
        case measure => simp [intOf]; omega
    · have hn : Hid (hasI L d = false) := hasI_no fun j hj => hno.out j (by omega)
      go_wp2
      go_ret
      exact ⟨-1, rfl, ⟨fun h => by omega, fun h => by rw [hn.out] at h; simp at h⟩, rfl⟩
set_option maxHeartbeats 400000 in
theorem contains_any (g cap : Nat) (L : List Int) (d : Int) (w : World) (hL : L.length ≤ 1048576) (hg : GrpAt w g 0 L) :
    Calls Try.prog 141 #[.slice (some ⟨g, 0, none⟩) L.length cap, .int .i64 d] w fun e w' => e = .returned (.bool (hasI L d)) ∧ w = w' := by
  go_enter Try.func141, Try.ntmps141
  go_wp2_with fail
  refine (index_any _ _ _ _ _ hL hg).mono ?_; rintro e w1 ⟨r, rfl, hr, rfl⟩
  have h := hid hr
  clear hr
  by_cases hs : 0 ≤ r
  · go_wp2
    go_ret
    exact ⟨ret_b (by rw [(h.out.1 hs)]), rfl⟩
  · have hf : Hid (hasI L d = false) := by unfold Hid; rw [Bool.eq_false_iff]; exact fun e => hs (h.out.2 e)
    go_wp2
    go_ret
    exact ⟨ret_b (by rw [hf.out]; simp; omega), rfl⟩
set_option maxHeartbeats 400000 in
theorem commonDifference_any (b off cap : Nat) (l : List Int) (x y : Int) (w : World) (hl : l.length ≤ 1099511627776) (hg : GrpAt w b off l) :
    Calls Try.prog 43 #[.agg #[.slice (some ⟨b, off, none⟩) l.length cap], .int .i64 x, .int .i64 y] w fun e w' => e = .returned (.tuple #[.int .i64 (comA l x y), .bool (comB l x y)]) ∧ Below w.heap.size w w' := by
  have hst := St.init cap 26 hg
  have hlx := difsF_len l x
  have hly := difsF_len l y
  have hA : Hid (comA l x y = (comF (difsF l x) (difsF l y)).getD 0) := rfl
  have hB : Hid (comB l x y = (comF (difsF l x) (difsF l y)).isSome) := rfl
  go_enter Try.func43, Try.ntmps43
  go_wp2_with fail
  refine (differencesOf_any _ _ _ _ _ _ hl hst.grp).mono ?_; rintro e w1 ⟨gy, cy, rfl, hmy⟩; have hst1 := hst.step hmy.below; have hbox1 := hst1.box
  clear hst
  go_wp2_with fail
  refine (differencesOf_any _ _ _ _ _ _ hl hst1.grp).mono ?_; rintro e w2 ⟨gx, cx, rfl, hmx⟩; have hst2 := hst1.step hmx.below; have hgy := hmy.grp.below hmx.below; have hgx := hmx.grp
  clear hmy hmx hst1 hbox1
  generalize difsF l x = X at *
  generalize difsF l y = Y at *
  go_wp2
  go_loop [18] (fun i => ∃ k : Nat, i = .int .i64 k ∧ k ≤ X.length ∧ Hid (∀ j, j < k → hasI Y (X.getD j 0) = false)) (fun i => X.length - (intOf i).toNat)
  case atStart => exact ⟨0, rfl, by omega, fun j hj => by omega⟩
  case round =>
    obtain ⟨k, rfl, hk, hno⟩ := hrel
    by_cases hlt : k < X.length
    · have hc := hgx.cell0 k hlt
      by_cases he : hasI Y (X.getD k 0) = true
      · have hc2 := hid (comF_yes hlt hno.out he)
        generalize X.getD k 0 = d at *
        go_wp2_with (go_at_call 141; refine (contains_any _ _ _ _ _ hly hgy).mono ?_; rintro e w3 ⟨rfl, rfl⟩)
        go_ret2
        exact ⟨ret_ib' (by rw [hA.out, hc2.out]; rfl) (by rw [hB.out, hc2.out]; rfl), hst2.below⟩
      · have he' : hasI Y (X.getD k 0) = false := by simpa using he
        have hno' : Hid (∀ j, j < k + 1 → hasI Y (X.getD j 0) = false) := fun j hj => by
          by_cases e : j = k
          · rw [e]; exact he'
          · exact hno.out j (by omega)
        clear he
        generalize X.getD k 0 = d at *
        go_wp2_with (go_at_call 141; refine (contains_any _ _ _ _ _ hly hgy).mono ?_; rintro e w3 ⟨rfl, rfl⟩)
        go_round
        case rel => exact ⟨k + 1, by go_num, by omega, hno'⟩
        case measure => simp [intOf]; omega
    · have hn : Hid (comF X Y = none) := comF_no fun j hj => hno.out j (by omega)
      go_wp2
      go_ret2
      exact ⟨ret_ib' (by rw [hA.out, hn.out]; rfl) (by rw [hB.out, hn.out]; rfl), hst2.below⟩
set_option maxHeartbeats 400000 in
theorem sCommonDifference_any (b off cap : Nat) (l : List Int) (x y : Int) (w : World) (hl : l.length ≤ 1099511627776) (hg : GrpAt w b off l) :
    Calls Try.prog 44 #[.agg #[.slice (some ⟨b, off, none⟩) l.length cap], .int .i64 x, .int .i64 y] w fun e w' => e = .returned (.tuple #[.int .i64 (comA l x y), .bool (comB l x y)]) ∧ Below w.heap.size w w' := by
  have hst := St.init cap 26 hg
  have hlx := difsF_len l x
  have hly := difsF_len l y
  have hA : Hid (comA l x y = (comF (difsF l x) (difsF l y)).getD 0) := rfl
  have hB : Hid (comB l x y = (comF (difsF l x) (difsF l y)).isSome) := rfl
  go_enter Try.func44, Try.ntmps44
  go_wp2_with fail
  refine (sDifferencesOf_any _ _ _ _ _ _ hl hst.grp).mono ?_; rintro e w1 ⟨gx, cx, rfl, hmx⟩; have hst1 := hst.step hmx.below; have hbox1 := hst1.box
  clear hst
  go_wp2_with fail
  refine (sDifferencesOf_any _ _ _ _ _ _ hl hst1.grp).mono ?_; rintro e w2 ⟨gy, cy, rfl, hmy⟩; have hst2 := hst1.step hmy.below; have hgx := hmx.grp.below hmy.below; have hgy := hmy.grp
  clear hmy hmx hst1 hbox1
  generalize difsF l x = X at *
  generalize difsF l y = Y at *
  go_wp2
  go_loopw [10] (fun i wr => ∃ k n : Nat, i = .int .i64 k ∧ k ≤ X.length ∧ Hid (∀ j, j < k → hasI Y (X.getD j 0) = false) ∧ wr = w2.drewN n) (fun i _ => X.length - (intOf i).toNat)
  case atStart => exact ⟨0, 0, rfl, by omega, (fun j hj => by omega), rfl⟩
  case round =>
    obtain ⟨k, n, rfl, hk, hno, rfl⟩ := hrel
    by_cases hlt : k < X.length
    · go_wp2
      go_loopw [11] (fun j wr => ∃ q n : Nat, j = .int .i64 q ∧ q ≤ Y.length ∧ Hid (∀ j, j < q → ¬ Y.getD j 0 = X.getD k 0) ∧ wr = w2.drewN n) (fun j _ => Y.length - (intOf j).toNat)
      case atStart => exact ⟨0, n, rfl, by omega, (fun j hj => by omega), rfl⟩
      case round =>
        obtain ⟨q, n, rfl, hq, hno2, rfl⟩ := hrel
        by_cases hlq : q < Y.length
        · have hcx := hgx.cell0 k hlt
          have hcy := hgy.cell0 q hlq
          have hki : (k : Int) < (X.length : Int) := by omega
          have hqi : (q : Int) < (Y.length : Int) := by omega
          by_cases he : Y.getD q 0 = X.getD k 0
          · have hc2 := hid (comF_yes hlt hno.out (hasI_yes hlq he))
            rw [he] at hcy
            clear he
            generalize X.getD k 0 = d at *
            go_wp2
            go_quiet (fail)
            go_wp2
            go_ret2
            exact ⟨ret_ib' (by rw [hA.out, hc2.out]; rfl) (by rw [hB.out, hc2.out]; rfl), (hst2.drewN _).below⟩
          · have hno2' : Hid (∀ j, j < q + 1 → ¬ Y.getD j 0 = X.getD k 0) := fun j hj => by
              by_cases e : j = q
              · rw [e]; exact he
              · exact hno2.out j (by omega)
            have hne : (X.getD k 0 == Y.getD q 0) = false := by rw [beq_eq_false_iff_ne]; exact fun e => he e.symm
            have hno2 := hid hno2'
            clear he hno2'
            generalize X.getD k 0 = d at *
            generalize Y.getD q 0 = d2 at *
            go_wp2
            go_quiet (fail)
            go_wp2
            go_roundw
            case rel => exact ⟨q + 1, _, by go_num, by omega, hno2.out, rfl⟩
            case measure => simp [intOf]; omega
        · have hno' : Hid (∀ j, j < k + 1 → hasI Y (X.getD j 0) = false) := fun j hj => by
            by_cases e : j = k
            · rw [e]; exact hasI_no fun i hi => hno2.out i (by omega)
            · exact hno.out j (by omega)
          go_wp2
          go_roundw
          case rel => exact ⟨k + 1, _, by go_num, by omega, hno', rfl⟩
          case measure => simp [intOf]; omega
    · have hn : Hid (comF X Y = none) := comF_no fun j hj => hno.out j (by omega)
      go_wp2
      go_ret2
      exact ⟨ret_ib' (by rw [hA.out, hn.out]; rfl) (by rw [hB.out, hn.out]; rfl), (hst2.drewN _).below⟩
end Go.Proofs.Ytpflnmcecnbilaa
