/-
  Contracts: values of characters; kernels.
-/
import Derived.Test.YtpflnmcecnbilaaExp
import Derived.Test.YtpflnmcecnbilaaShift
import Derived.Deep.RegionHeld3
namespace Go.Proofs.Ytpflnmcecnbilaa
open Go.RowKit

def chS (E : Nat) : List Nat → Nat → Nat → Nat
  | [], _, _ => 0
  | o :: r, k, x => k % o * (x % o) * (E / o) + chS E r (k / o) (x / o)
def charN (m : List Nat) (k x : Nat) : Nat := chS (expN m) m k x % expN m
theorem chS_step {m : List Nat} {i K X S T E : Nat} (hi : i < m.length) (h : S + chS E (m.drop i) K X = T) :
    S + K % m.getD i 0 * (X % m.getD i 0) * (E / m.getD i 0) + chS E (m.drop (i + 1)) (K / m.getD i 0) (X / m.getD i 0) = T := by
  rw [drop_cons m 0 i hi] at h; simp only [chS] at h; omega
theorem chS_end {m : List Nat} {i K X S T E : Nat} (hi : m.length ≤ i) (h : S + chS E (m.drop i) K X = T) : S = T := by
  rw [List.drop_of_length_le hi] at h; simpa [chS] using h
theorem chS_term {o K X E : Nat} (ho : 2 ≤ o) (ho2 : o ≤ 24) (hE : E ≤ 24) : K % o * (X % o) ≤ 576 ∧ E / o ≤ 24 ∧ K % o * (X % o) * (E / o) ≤ 13824 := by
  have h1 := Nat.mod_lt K (show o > 0 by omega)
  have h2 := Nat.mod_lt X (show o > 0 by omega)
  have h3 := Nat.div_le_self E o
  have h4 : K % o * (X % o) ≤ 24 * 24 := Nat.mul_le_mul (by omega) (by omega)
  have h5 : K % o * (X % o) * (E / o) ≤ 576 * 24 := Nat.mul_le_mul h4 (by omega)
  exact ⟨h4, by omega, by omega⟩
theorem chS_le : ∀ {m : List Nat} {E : Nat}, (∀ o ∈ m, 2 ≤ o ∧ o ≤ 24) → E ≤ 24 → ∀ k x, chS E m k x ≤ m.length * 13824
  | [], _, _, _, _, _ => by simp [chS]
  | o :: r, E, h, hE, k, x => by
    have ih := chS_le (m := r) (fun p hp => h p (by simp [hp])) hE (k / o) (x / o)
    have h1 := (chS_term (K := k) (X := x) (h o (by simp)).1 (h o (by simp)).2 hE).2.2
    simp only [chS, List.length_cons, Nat.add_mul]; omega
theorem wrap_ch {S K X o E : Nat} (ho : 2 ≤ o) (ho2 : o ≤ 24) (hE : E ≤ 24) (hS : S ≤ 41472) :
    wrap64 ((S : Int) + wrap64 (wrap64 ((K : Int) % (o : Int) * ((X : Int) % (o : Int))) * wrap64 ((E : Int) / (o : Int)))) = ((S + K % o * (X % o) * (E / o) : Nat) : Int) := by
  obtain ⟨h1, h2, h3⟩ := chS_term (K := K) (X := X) ho ho2 hE
  have e1 : wrap64 ((K : Int) % (o : Int) * ((X : Int) % (o : Int))) = ((K % o * (X % o) : Nat) : Int) := by
    have e : (K : Int) % (o : Int) * ((X : Int) % (o : Int)) = ((K % o * (X % o) : Nat) : Int) := by simp
    rw [e]; exact IntWalk.wrap64_in _ (by omega)
  have e2 : wrap64 ((E : Int) / (o : Int)) = ((E / o : Nat) : Int) := wrap_div (by omega)
  rw [e1, e2]
  have e3 : wrap64 (((K % o * (X % o) : Nat) : Int) * ((E / o : Nat) : Int)) = ((K % o * (X % o) * (E / o) : Nat) : Int) := by
    have e : ((K % o * (X % o) : Nat) : Int) * ((E / o : Nat) : Int) = ((K % o * (X % o) * (E / o) : Nat) : Int) := (Int.natCast_mul _ _).symm
    rw [e]; exact IntWalk.wrap64_in _ (by omega)
  rw [e3]
  have e4 : (S : Int) + ((K % o * (X % o) * (E / o) : Nat) : Int) = ((S + K % o * (X % o) * (E / o) : Nat) : Int) := (Int.natCast_add _ _).symm
  rw [e4]; exact IntWalk.wrap64_in _ (by omega)
theorem emod_nat (S E : Nat) : (S : Int) % (E : Int) = ((S % E : Nat) : Int) := (Int.natCast_emod S E).symm
theorem charN_lt {m : List Nat} (hm : Ok m) (k x : Nat) : charN m k x < expN m := Nat.mod_lt _ (expN_bd hm).1
set_option maxHeartbeats 400000 in
theorem l7Value_any (b off cap : Nat) (m : List Nat) (k x : Nat) (w : World) (hm : Ok m) (hk : k ≤ 16777216) (hx : x ≤ 16777216) (hg : GrpAt w b off (cst m)) :
    Calls Try.prog 183 #[.agg #[.slice (some ⟨b, off, none⟩) (cst m).length cap], .int .i64 k, .int .i64 x] w fun e w' => e = .returned (.int .i64 (charN m k x : Nat)) ∧ Below w.heap.size w w' := by
  have hst := St.init cap 26 hg
  have hl : (cst m).length ≤ 3 := by rw [cst_length]; exact hm.len
  have hE := expN_bd hm
  have hle := chS_le hm.rng hE.2 k x
  have hlm : m.length ≤ 3 := hm.len
  have hch : Hid (charN m k x = chS (expN m) m k x % expN m) := rfl
  go_enter Try.func183, Try.ntmps183
  go_wp2_with fail
  refine (sExponentOf_yes _ _ _ _ _ hm hst.grp).mono ?_; rintro e w1 ⟨rfl, hb1⟩; have hst1 := hst.step hb1
  clear hst hb1 hg
  generalize hT : chS (expN m) m k x = T at *
  have hT := hid hT
  generalize expN m = E at *
  go_wp2
  go_loopw [1, 2, 8, 9] (fun k1 x1 s i wr => ∃ i' K X S : Nat, i = .int .i64 i' ∧ i' ≤ (cst m).length ∧ k1 = .int .i64 K ∧ x1 = .int .i64 X ∧ s = .int .i64 S ∧ K ≤ 16777216 ∧ X ≤ 16777216 ∧ Hid (S + chS E (m.drop i') K X = T) ∧ St w b off cap (cst m) wr) (fun _ _ _ i _ => (cst m).length - (intOf i).toNat)
  case atStart => exact ⟨0, k, x, 0, rfl, by omega, rfl, rfl, rfl, hk, hx, by have := hT.out; simp [Hid, this], hst1⟩
  case round =>
    clear hst1 hT
    rename_i wr
    obtain ⟨i, K, X, S, rfl, hi, rfl, rfl, rfl, hK, hX, hrel, hstr⟩ := hrel
    have hboxr := hstr.box
    have hS : S ≤ 41472 := by have := hrel.out; omega
    by_cases hlt : i < (cst m).length
    · have hck := hstr.grp.nat i hlt
      have hltm : i < m.length := by rw [← cst_length m]; exact hlt
      have ho := hm.ath hltm
      have hn := hid (chS_step hltm hrel.out)
      generalize m.getD i 0 = o at *
      have hwS := hid (wrap_ch (K := K) (X := X) ho.1 ho.2 hE.2 hS)
      have hm1 := mod_bd K ho.1
      have hm2 := mod_bd X ho.1
      have hd1 := Nat.div_le_self K o
      have hd2 := Nat.div_le_self X o
      have hst2 := hid hstr.drew
      go_wp2
      go_quiet (fail)
      go_wp2
      go_roundw
      case rel => exact ⟨i + 1, K / o, X / o, _, by go_num, by omega, val_i (wrap_div hK), val_i (wrap_div hX), val_i hwS.out, by omega, by omega, hn, hstr.drewN _⟩
      case measure => simp [intOf]; omega
    · have hend := hid (chS_end (by rw [← cst_length m]; omega) hrel.out)
      have hmd := hid (emod_nat S E)
      have hmb : 0 ≤ (S : Int) % (E : Int) ∧ (S : Int) % (E : Int) < (E : Int) := ⟨Int.emod_nonneg _ (by omega), Int.emod_lt_of_pos _ (by omega)⟩
      go_wp2
      go_ret
      exact ⟨ret_i (by rw [hch.out, ← hend.out, hmd.out]), hstr.below⟩
def dig : List Nat → Nat → List Nat
  | [], _ => []
  | o :: r, x => x % o :: dig r (x / o)
theorem dig_len : ∀ (m : List Nat) (x : Nat), (dig m x).length = m.length
  | [], _ => rfl
  | o :: r, x => by simp [dig, dig_len r]
theorem dig_step {m L : List Nat} {i X : Nat} (hi : i < m.length) (hl : L.length = m.length) (h : L.drop i = dig (m.drop i) X) : L.getD i 0 = X % m.getD i 0 ∧ L.drop (i + 1) = dig (m.drop (i + 1)) (X / m.getD i 0) := by
  rw [drop_cons m 0 i hi, drop_cons L 0 i (by omega)] at h
  simp only [dig, List.cons.injEq] at h
  exact h
set_option maxHeartbeats 400000 in
theorem places_any (b off cap : Nat) (m : List Nat) (x : Nat) (w : World) (hm : Ok m) (hx : x ≤ 16777216) (hg : GrpAt w b off (cst m)) :
    Calls Try.prog 192 #[.agg #[.slice (some ⟨b, off, none⟩) (cst m).length cap], .int .i64 x] w (RetInts w (cst (dig m x))) := by
  obtain ⟨i0, hi, hz0, hz1, hz2⟩ := info_parts info_int
  have hst := (St.init cap 26 hg).step ((Below.refl _ _).alloc (Nat.le_refl _) (.cells #[] 3))
  have hgrw := GrowB.start (w := w) (w0 := w.alloc (.cells #[.slice (some ⟨b, off, none⟩) (cst m).length cap] 26)) ((Below.refl _ _).alloc (Nat.le_refl _) _) (by simp) (w.heap.size + 1) (by simp)
  have hbw := hg.blt
  have hl : (cst m).length ≤ 3 := by rw [cst_length]; exact hm.len
  have hbox := hst.box
  have hdl := hid (dig_len m x)
  have hds : Hid ((dig m x).drop 0 = dig (m.drop 0) x) := rfl
  generalize dig m x = L at *
  go_enter Try.func192, Try.ntmps192
  go_wp2
  go_loopw [1, 5, 12] (fun x1 o i wr => ∃ k X : Nat, i = .int .i64 k ∧ k ≤ (cst m).length ∧ x1 = .int .i64 X ∧ X ≤ 16777216 ∧ Hid (L.drop k = dig (m.drop k) X) ∧ GrowB w (cst (L.take k)) o wr ∧ St w b off cap (cst m) wr) (fun _ _ i _ => (cst m).length - (intOf i).toNat)
  case atStart => exact ⟨0, x, rfl, by omega, rfl, hx, hds, hgrw, hst⟩
  case round =>
    clear hgrw hst hbox hds
    rename_i wr
    obtain ⟨k, X, rfl, hk, rfl, hX, hdr, hgr, hstr⟩ := hrel
    by_cases hlt : k < (cst m).length
    · have hck := hstr.grp.nat k hlt
      have hltm : k < m.length := by rw [← cst_length m]; exact hlt
      have ho := hm.ath hltm
      have hs := hid (dig_step hltm hdl.out hdr.out)
      have htk : Hid (cst (L.take (k + 1)) = cst (L.take k) ++ [((X % m.getD k 0 : Nat) : Int)]) := by
        unfold Hid; rw [take_snoc L 0 k (by rw [hdl.out]; exact hltm), hs.out.1, cst_snoc]
      have hlen : (cst (L.take k)).length ≤ 3 := by rw [cst_length, List.length_take]; omega
      generalize m.getD k 0 = o at *
      have hm1 := mod_bd X ho.1
      have hd1 := Nat.div_le_self X o
      have hmc := hid (emod_nat X o)
      have hown := hgr.own
      generalize hG : L.take k = G at *
      go_wp2_with (at_builtin; refine wpList_append_own _ rfl _ _ 24 rfl (w.heap.size + 1) 3 i0 (.int .i64 0) 1 8 Try.underlying24 hi hz0 hz1 hz2 rfl (by decide) _ _ _ rfl (hown.alloc _) ⟨wr.heap.size, 0, none⟩ 1 1 [.int .i64 ((X : Int) % (o : Int))] rfl rfl ?c1 ?c2 ?c3 ?c4 ?c5 ?_)
      case c1 => exact cell_one_new _ _ _
      case c2 => intro u hu; simp at hu; subst hu; rfl
      case c3 => simp only [maxLen]; omega
      case c4 => omega
      case c5 => have := hstr.size; simp; omega
      intro v' w4 hown' hgrow hnil
      have hp := hid (hgr.push hown' hgrow hnil)
      have hst4 := hid (hstr.grown hbw hgrow hgr)
      clear hown hown' hgrow hnil hstr hgr
      go_wp2
      go_roundw
      case rel => exact ⟨k + 1, X / o, by go_num, by omega, val_i (wrap_div hX), by omega, hs.out.2, by rw [htk.out, ← hmc.out]; exact hp.out, hst4.out⟩
      case measure => simp [intOf]; omega
    · have hend : Hid (L.take k = L) := by unfold Hid; rw [List.take_of_length_le]; rw [hdl.out, ← cst_length m]; omega
      go_wp2
      go_ret
      have := hgr.ret
      rw [hend.out] at this
      exact this
set_option maxHeartbeats 400000 in
theorem characterValue_yes (b off cap : Nat) (m : List Nat) (k x : Nat) (w : World) (hm : Ok m) (hk : k < prodN m) (hx : x < prodN m) (hg : GrpAt w b off (cst m)) :
    Calls Try.prog 188 #[.agg #[.slice (some ⟨b, off, none⟩) (cst m).length cap], .int .i64 k, .int .i64 x] w fun e w' => e = .returned (.int .i64 (charN m k x : Nat)) ∧ Below w.heap.size w w' := by
  have hst := St.init cap 26 hg
  have hl3 : (cst m).length ≤ 3 := by rw [cst_length]; exact hm.len
  have hl : (cst m).length ≤ 1099511627776 := by omega
  have hord := hm.ord
  have hE := expN_bd hm
  have hle := chS_le hm.rng hE.2 k x
  have hlm : m.length ≤ 3 := hm.len
  have hch : Hid (charN m k x = chS (expN m) m k x % expN m) := rfl
  have hel1 : isEl (cst m) (k : Int) = true := isEl_iff.2 ⟨m, k, hm, rfl, rfl, hk⟩
  have hel2 : isEl (cst m) (x : Int) = true := isEl_iff.2 ⟨m, x, hm, rfl, rfl, hx⟩
  have hP := hid (dig_len m k)
  have hQ := hid (dig_len m x)
  have hPd : Hid ((dig m k).drop 0 = dig (m.drop 0) k) := rfl
  have hQd : Hid ((dig m x).drop 0 = dig (m.drop 0) x) := rfl
  go_enter Try.func188, Try.ntmps188
  go_wp2_with (first | (go_at_call 145; refine (has_any _ _ _ _ _ _ hl (St.grp (by assumption))).mono ?_; rintro e wN ⟨rfl, hbN⟩; have hstN := St.step (by assumption) hbN; have hboxN := hstN.box; clear hbN))
  have hst2 : St w b off cap (cst m) wN := by assumption
  refine (exponentOf_yes _ _ _ _ _ hm hst2.grp).mono ?_; rintro e w1 ⟨rfl, hb1⟩; have hst3 := (hst2.step hb1).drew
  clear hst hst2 hb1 hg hel1 hel2 hboxN
  generalize hT : chS (expN m) m k x = T at *
  have hT := hid hT
  generalize expN m = E at *
  go_wp2
  go_region_held3 (fun w' => w'.cell? ⟨w.heap.size, 0, none⟩ = some (.slice (some ⟨b, off, none⟩) (cst m).length cap) ∧ St w b off cap (cst m) w') (first | exact ⟨hst3.box, hst3⟩ | exact St.keep (by assumption) hma.below | exact St.keep (by assumption) hmb.below)
    (first | (go_at_call 192; (with_reducible show Calls Try.prog 192 #[_, .int .i64 (k : Int)] _ _); refine (places_any _ _ _ _ k _ hm (by omega) (St.grpOf (by assumption))).mono ?_; rintro e wa ⟨ga, ca, rfl, hma⟩) | (go_at_call 192; (with_reducible show Calls Try.prog 192 #[_, .int .i64 (x : Int)] _ _); refine (places_any _ _ _ _ x _ hm (by omega) (St.grpOf (by assumption))).mono ?_; rintro e wb ⟨gb, cb, rfl, hmb⟩))
  all_goals
    have hst4 : St w b off cap (cst m) _ := And.right (by assumption)
    first
    | (have hga := hma.grp.below hmb.below; have hgb := hmb.grp)
    | (have hgb := hmb.grp.below hma.below; have hga := hma.grp)
    clear hma hmb
    have hlP : (cst (dig m k)).length = (cst m).length := by rw [cst_length, cst_length, hP.out]
    have hlQ : (cst (dig m x)).length = (cst m).length := by rw [cst_length, cst_length, hQ.out]
    generalize dig m k = P at *
    generalize dig m x = Q at *
    have hbox4 := hst4.box
    go_wp2
    go_loopw [10, 34] (fun s i wr => ∃ i' K X S : Nat, i = .int .i64 i' ∧ i' ≤ (cst m).length ∧ s = .int .i64 S ∧ Hid (S + chS E (m.drop i') K X = T) ∧ Hid (P.drop i' = dig (m.drop i') K) ∧ Hid (Q.drop i' = dig (m.drop i') X) ∧ GrpAt wr ga 0 (cst P) ∧ GrpAt wr gb 0 (cst Q) ∧ St w b off cap (cst m) wr) (fun _ i _ => (cst m).length - (intOf i).toNat)
    case atStart => exact ⟨0, k, x, 0, rfl, by omega, rfl, by have := hT.out; simp [Hid, this], hPd, hQd, hga, hgb, hst4⟩
    case round =>
      clear hst4 hbox4 hT hga hgb hPd hQd
      rename_i wr
      obtain ⟨i, K, X, S, rfl, hi, rfl, hrel, hPd, hQd, hga, hgb, hstr⟩ := hrel
      have hS : S ≤ 41472 := by have := hrel.out; omega
      by_cases hlt : i < (cst m).length
      · have hck := hstr.grp.nat i hlt
        have hltm : i < m.length := by rw [← cst_length m]; exact hlt
        have ho := hm.ath hltm
        have hn := hid (chS_step hltm hrel.out)
        have hsP := hid (dig_step hltm hP.out hPd.out)
        have hsQ := hid (dig_step hltm hQ.out hQd.out)
        have hcp := hga.nat0 i (by omega)
        have hcq := hgb.nat0 i (by omega)
        rw [hsP.out.1] at hcp
        rw [hsQ.out.1] at hcq
        generalize m.getD i 0 = o at *
        have hwS := hid (wrap_ch (K := K) (X := X) ho.1 ho.2 hE.2 hS)
        rw [← emod_nat] at hcp hcq
        have hm1 := mod_bd K ho.1
        have hm2 := mod_bd X ho.1
        have hi1 : (i : Int) < ((cst P).length : Int) := by omega
        have hi2 : (i : Int) < ((cst Q).length : Int) := by omega
        go_wp2
        go_quiet (fail)
        go_wp2
        go_roundw
        case rel => exact ⟨i + 1, K / o, X / o, _, by go_num, by omega, val_i hwS.out, hn, hsP.out.2, hsQ.out.2, hga.drewN _, hgb.drewN _, hstr.drewN _⟩
        case measure => simp [intOf]; omega
      · have hend := hid (chS_end (by rw [← cst_length m]; omega) hrel.out)
        have hmd := hid (emod_nat S E)
        have hmb : 0 ≤ (S : Int) % (E : Int) ∧ (S : Int) % (E : Int) < (E : Int) := ⟨Int.emod_nonneg _ (by omega), Int.emod_lt_of_pos _ (by omega)⟩
        go_wp2
        go_ret
        exact ⟨ret_i (by rw [hch.out, ← hend.out, hmd.out]), hstr.below⟩
end Go.Proofs.Ytpflnmcecnbilaa
