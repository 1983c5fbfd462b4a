/-
  Contracts: lists of counts multiplied.
-/
import Derived.Test.YtickcopllojchaaCnt2
namespace Go.Proofs.Ytickcopllojchaa
open Go.RowKit

/-! ### products added up at places told by f -/
def inMul (f : Nat → Nat → Nat) (P Q : List Int) (i : Nat) (T : List Int) : Nat → List Int
  | 0 => T
  | k + 1 => (inMul f P Q i T k).set (f i k) ((inMul f P Q i T k).getD (f i k) 0 + P.getD i 0 * Q.getD k 0)
def outMul (f : Nat → Nat → Nat) (P Q : List Int) (n : Nat) : Nat → List Int
  | 0 => List.replicate n 0
  | i + 1 => inMul f P Q i (outMul f P Q n i) Q.length
theorem inMul_len (f : Nat → Nat → Nat) (P Q : List Int) (i : Nat) (T : List Int) : ∀ k, (inMul f P Q i T k).length = T.length
  | 0 => rfl
  | k + 1 => by rw [inMul, List.length_set, inMul_len f P Q i T k]
theorem outMul_len (f : Nat → Nat → Nat) (P Q : List Int) (n : Nat) : ∀ i, (outMul f P Q n i).length = n
  | 0 => by simp [outMul]
  | i + 1 => by rw [outMul, inMul_len, outMul_len f P Q n i]
/-- all entries lie between -c and c -/
def bdT (T : List Int) (c : Int) : Prop := ∀ z, -c ≤ T.getD z 0 ∧ T.getD z 0 ≤ c
theorem bdT_zero (n : Nat) : bdT (List.replicate n 0) 0 := fun z => by
  rcases Nat.lt_or_ge z n with h | h
  · simp [List.getD_eq_getElem?_getD, h]
  · simp [List.getD_eq_getElem?_getD, Nat.not_lt.2 h]
theorem bdT_mono {T : List Int} {c d : Int} (h : bdT T c) (hcd : c ≤ d) : bdT T d := fun z => by have := h z; omega
theorem getD_set_or (T : List Int) (z u : Nat) (v : Int) : (T.set z v).getD u 0 = v ∨ (T.set z v).getD u 0 = T.getD u 0 := by
  rw [List.getD_eq_getElem?_getD, List.getD_eq_getElem?_getD, List.getElem?_set]
  by_cases e : z = u
  · subst e
    by_cases hl : z < T.length
    · left; simp [hl]
    · right; simp [hl]
  · right; simp [e]
theorem bdT_set {T : List Int} {c V x : Int} {z : Nat} (_hV : 0 ≤ V) (h : bdT T c) (hx : -V ≤ x ∧ x ≤ V) : bdT (T.set z (T.getD z 0 + x)) (c + V) := fun u => by
  have h1 := h u
  have h2 := h z
  rcases getD_set_or T z u (T.getD z 0 + x) with e | e <;> rw [e] <;> omega
theorem inMul_bd {f : Nat → Nat → Nat} {P Q T : List Int} {i : Nat} {c V : Int} (hV : 0 ≤ V) (h : bdT T c) (hx : ∀ k, k < Q.length → -V ≤ P.getD i 0 * Q.getD k 0 ∧ P.getD i 0 * Q.getD k 0 ≤ V) : ∀ k, k ≤ Q.length → bdT (inMul f P Q i T k) (c + k * V)
  | 0, _ => by simpa [inMul] using h
  | k + 1, hk => by
    have ih := inMul_bd (f := f) hV h hx k (by omega)
    have := bdT_set (z := f i k) hV ih (hx k (by omega))
    rw [inMul]
    refine bdT_mono this ?_
    rw [Int.natCast_add, Int.add_mul]; omega
theorem outMul_bd {f : Nat → Nat → Nat} {P Q : List Int} {n : Nat} {V : Int} (hV : 0 ≤ V) (hx : ∀ i k, i < P.length → k < Q.length → -V ≤ P.getD i 0 * Q.getD k 0 ∧ P.getD i 0 * Q.getD k 0 ≤ V) : ∀ i, i ≤ P.length → bdT (outMul f P Q n i) (i * (Q.length * V))
  | 0, _ => by simpa [outMul] using bdT_zero n
  | i + 1, hi => by
    have ih := outMul_bd (f := f) (n := n) hV hx i (by omega)
    have := inMul_bd (f := f) hV ih (fun k hk => hx i k (by omega) hk) Q.length (Nat.le_refl _)
    rw [outMul]
    refine bdT_mono this ?_
    rw [Int.natCast_add, Int.add_mul]; omega
theorem mul_bd {x y B : Int} (hB : 0 ≤ B) (hx : -B ≤ x ∧ x ≤ B) (hy : -B ≤ y ∧ y ≤ B) : -(B * B) ≤ x * y ∧ x * y ≤ B * B := by
  have h1 : x.natAbs ≤ B.natAbs := by omega
  have h2 : y.natAbs ≤ B.natAbs := by omega
  have h3 := Nat.mul_le_mul h1 h2
  rw [← Int.natAbs_mul, ← Int.natAbs_mul] at h3
  have h4 : 0 ≤ B * B := Int.mul_nonneg hB hB
  omega
def cyc (n i k : Nat) : Nat := (i + k) % n
def mulF (P Q : List Int) : List Int := if cntOk P Q = true then outMul (cyc P.length) P Q P.length P.length else []
theorem mulF_yes {P Q : List Int} (h : cntOk P Q = true) : mulF P Q = outMul (cyc P.length) P Q P.length P.length := by unfold mulF; rw [if_pos h]
theorem mulF_no {P Q : List Int} (h : cntOk P Q = false) : mulF P Q = [] := by unfold mulF; rw [if_neg (by simp [h])]
theorem mulF_len (P Q : List Int) : (mulF P Q).length ≤ 1048576 := by
  by_cases h : cntOk P Q = true
  · rw [mulF_yes h, outMul_len]; have := cntOk_yes h; omega
  · rw [mulF_no (by simpa using h)]; simp
theorem cnt_mul {P Q : List Int} (h1 : allIn (-1000) 1000 P = true) (h2 : allIn (-1000) 1000 Q = true) : ∀ i k, i < P.length → k < Q.length → -1000000 ≤ P.getD i 0 * Q.getD k 0 ∧ P.getD i 0 * Q.getD k 0 ≤ 1000000 := fun i k hi hk => by
  have := mul_bd (B := 1000) (by omega) (allIn_at h1 hi) (allIn_at h2 hk)
  omega
theorem cnt_bd {P Q : List Int} (h : cntOk P Q = true) : ∀ i k z, i < P.length → k ≤ Q.length → -1000000000 ≤ (inMul (cyc P.length) P Q i (outMul (cyc P.length) P Q P.length i) k).getD z 0 ∧ (inMul (cyc P.length) P Q i (outMul (cyc P.length) P Q P.length i) k).getD z 0 ≤ 1000000000 := fun i k z hi hk => by
  obtain ⟨h1, h2, h3, h4, h5⟩ := cntOk_yes h
  have hm := cnt_mul h1 h2
  have a := outMul_bd (f := cyc P.length) (n := P.length) (V := 1000000) (by omega) hm i (by omega)
  have b := inMul_bd (f := cyc P.length) (V := 1000000) (by omega) a (fun k hk => hm i k hi hk) k hk z
  have e1 : (i : Int) * ((Q.length : Int) * 1000000) ≤ 24 * (24 * 1000000) := by
    have f1 : (i : Int) * ((Q.length : Int) * 1000000) ≤ 24 * ((Q.length : Int) * 1000000) := Int.mul_le_mul_of_nonneg_right (by omega) (by omega)
    omega
  omega
set_option maxHeartbeats 2000000 in
theorem multiplyCounts_any (b cap : Nat) (P : List Int) (b2 cap2 : Nat) (Q : List Int) (w : World) (hP : P.length ≤ 1099511627776) (hQ : Q.length ≤ 1099511627776) (hg : GrpAt w b 0 P) (hg2 : GrpAt w b2 0 Q) :
    Calls Try.prog 22 #[.slice (some ⟨b, 0, none⟩) P.length cap, .slice (some ⟨b2, 0, none⟩) Q.length cap2] w (RetInts w (mulF P Q)) := by
  obtain ⟨i0, hi, hz0, hz1, hz2⟩ := info_parts info_int
  by_cases h : cntOk P Q = true
  · have hr := hid (mulF_yes h)
    have hbd := hid (cnt_bd h)
    obtain ⟨h1, h2, h3, h4, h5⟩ := cntOk_yes h
    have hml := hid (cnt_mul h1 h2)
    have hlen : Q.length ≤ 24 ∧ P.length ≤ Q.length ∧ Q.length ≤ P.length := by omega
    clear h1 h2 h3
    go_enter Try.func22, Try.ntmps22
    go_wp2_with fail
    refine (areCounts_any _ _ _ _ _ _ _ hP hQ hg hg2).mono ?_; rintro e w1 ⟨rfl, hb1⟩; rw [h]
    have hsz1 := hb1.size
    go_wp2_with (refine wpList_make_full _ rfl _ _ 22 rfl w.heap.size 3 i0 (.int .i64 0) 1 Try.underlying22 hi hz0 hz1 .i64 .i64 _ _ P.length rfl rfl rfl rfl ?c2 ?c3 ?c4 ?_)
    case c2 => rw [hz2]; omega
    case c3 => simp only [maxLen]; omega
    case c4 => exact hsz1
    intro w2 hown hgr
    have hmk := Made.make hb1 hown hgr
    have hbg := hg.blt
    have hbg2 := hg2.blt
    have hnb : b ≠ w1.heap.size ∧ b2 ≠ w1.heap.size := by omega
    clear hown hgr h hb1
    generalize w1.heap.size = go at *
    have hsl := hid (outMul_len (cyc P.length) P Q P.length)
    go_wp2
    go_loopw [20] (fun u wr => ∃ i : Nat, u = .int .i64 i ∧ i ≤ P.length ∧ Made w (outMul (cyc P.length) P Q P.length i) go P.length wr) (fun u _ => P.length - (intOf u).toNat)
    case atStart => exact ⟨0, rfl, by omega, hmk⟩
    case round =>
      clear hmk
      rename_i wr
      obtain ⟨i, rfl, hi1, hout⟩ := hrel
      by_cases hlt : i < P.length
      · have hcx := (hg.below hout.below).cell0 i hlt
        obtain ⟨x, hx⟩ : ∃ x, Hid (P.getD i 0 = x) := ⟨_, rfl⟩
        rw [hx.out] at hcx
        have hin := hid (inMul_len (cyc P.length) P Q i (outMul (cyc P.length) P Q P.length i))
        have hbi : Hid (∀ k z, k ≤ Q.length → -1000000000 ≤ (inMul (cyc P.length) P Q i (outMul (cyc P.length) P Q P.length i) k).getD z 0 ∧ (inMul (cyc P.length) P Q i (outMul (cyc P.length) P Q P.length i) k).getD z 0 ≤ 1000000000) := fun k z hk => hbd.out i k z hlt hk
        have hmi : Hid (∀ k, k < Q.length → -1000000 ≤ x * Q.getD k 0 ∧ x * Q.getD k 0 ≤ 1000000) := fun k hk => by rw [← hx.out]; exact hml.out i k hlt hk
        have hstart : Hid (Made w (inMul (cyc P.length) P Q i (outMul (cyc P.length) P Q P.length i) 0) go P.length wr) := hout
        clear hout
        go_wp2
        go_loopw [27] (fun u wr => ∃ k : Nat, u = .int .i64 k ∧ k ≤ Q.length ∧ Made w (inMul (cyc P.length) P Q i (outMul (cyc P.length) P Q P.length i) k) go P.length wr) (fun u _ => Q.length - (intOf u).toNat)
        case atStart => exact ⟨0, rfl, by omega, hstart.out⟩
        case round =>
          clear hstart hcx
          rename_i wr
          obtain ⟨k, rfl, hk1, hout⟩ := hrel
          by_cases hlk : k < Q.length
          · have hcy := (hg2.below hout.below).cell0 k hlk
            obtain ⟨y, hy⟩ : ∃ y, Hid (Q.getD k 0 = y) := ⟨_, rfl⟩
            rw [hy.out] at hcy
            have hxy := hmi.out k hlk
            rw [hy.out] at hxy
            have hzl : cyc P.length i k < P.length := Nat.mod_lt _ (by omega)
            have hz : ((i : Int) + (k : Int)).tmod (P.length : Int) = ((cyc P.length i k : Nat) : Int) := by unfold cyc; rw [← Int.natCast_add]; exact (Int.ofNat_tmod _ _).symm
            have hnx : Hid (inMul (cyc P.length) P Q i (outMul (cyc P.length) P Q P.length i) (k + 1) = (inMul (cyc P.length) P Q i (outMul (cyc P.length) P Q P.length i) k).set (cyc P.length i k) ((inMul (cyc P.length) P Q i (outMul (cyc P.length) P Q P.length i) k).getD (cyc P.length i k) 0 + x * y)) := by
              unfold Hid; rw [inMul, hx.out, hy.out]
            have hbo := hbi.out k (cyc P.length i k) (by omega)
            have hco := hout.drew.cell (cyc P.length i k) (by rw [hin.out, hsl.out]; exact hzl)
            have hfo := hout.drew.frozen (cyc P.length i k)
            have hst := hout.drew.store (cyc P.length i k) ((inMul (cyc P.length) P Q i (outMul (cyc P.length) P Q P.length i) k).getD (cyc P.length i k) 0 + x * y)
            rw [← hnx.out] at hst
            generalize (inMul (cyc P.length) P Q i (outMul (cyc P.length) P Q P.length i) k).getD (cyc P.length i k) 0 = o at *
            generalize cyc P.length i k = z at *
            have hw1 : IntKind.i64.wrap ((i : Int) + (k : Int)) = (i : Int) + (k : Int) := by rw [IntWalk.i64_left, IntWalk.wrap64_in _ (by omega)]
            have hw2 : IntKind.i64.wrap (x * y) = x * y := by rw [IntWalk.i64_left, IntWalk.wrap64_in _ (by omega)]
            have hw3 : IntKind.i64.wrap (o + x * y) = o + x * y := by rw [IntWalk.i64_left, IntWalk.wrap64_in _ (by omega)]
            have hn0 : ¬ P = [] := by intro e; subst e; simp at hlt
            have hz0' : (0 : Int) ≤ (z : Int) := by omega
            have hzl' : (z : Int) < (P.length : Int) := by omega
            clear hout hnx
            go_wp2
            refine wp_region_held_drew (S := fun _ => True) (by kernel_rfl) trivial (fun hHeld => ?_)
            (refine wpAnyH_take (i := 0) (oi := ?oi117) (v := ?v117) ?hi117 (by kernel_rfl) (by kernel_rfl) (by kernel_rfl) ?hq117 ?hy117 (by assumption) ?hr117; (case hi117 => ((simp only [List.getElem?_toArray, List.getElem?_cons_zero]); exact rfl)); (case hq117 => exact fun _ _ _ h => h); (case hy117 => (refine Or.inl ⟨by rfl, ?_⟩; (intro w hSw); (try dsimp only at hSw); go_simp; (try with_reducible rfl))); (try simp only [Act.put, List.setIfInBounds_toArray, List.set_cons_zero, List.set_cons_succ])); (refine wpAnyH_take (i := 1) (oi := ?oi118) (v := ?v118) ?hi118 (by kernel_rfl) (by kernel_rfl) (by kernel_rfl) ?hq118 ?hy118 (by assumption) ?hr118; (case hi118 => ((simp only [List.getElem?_toArray, List.getElem?_cons_zero, List.getElem?_cons_succ]); exact rfl)); (case hq118 => exact fun _ _ _ h => h); (case hy118 => (refine Or.inl ⟨by rfl, ?_⟩; (intro w hSw); (try dsimp only at hSw); go_simp; (try with_reducible rfl))); (try simp only [Act.put, List.setIfInBounds_toArray, List.set_cons_zero, List.set_cons_succ])); (refine wpAnyH_take (i := 2) (oi := ?oi119) (v := ?v119) ?hi119 (by kernel_rfl) (by kernel_rfl) (by kernel_rfl) ?hq119 ?hy119 (by assumption) ?hr119; (case hi119 => ((simp only [List.getElem?_toArray, List.getElem?_cons_zero, List.getElem?_cons_succ]); exact rfl)); (case hq119 => exact fun _ _ _ h => h); (case hy119 => (refine Or.inl ⟨by rfl, ?_⟩; (intro w hSw); (try dsimp only at hSw); go_simp; (try with_reducible rfl))); (try simp only [Act.put, List.setIfInBounds_toArray, List.set_cons_zero, List.set_cons_succ])); (refine wpAnyH_take (i := 3) (oi := ?oi120) (v := ?v120) ?hi120 (by kernel_rfl) (by kernel_rfl) (by kernel_rfl) ?hq120 ?hy120 (by assumption) ?hr120; (case hi120 => ((simp only [List.getElem?_toArray, List.getElem?_cons_zero, List.getElem?_cons_succ]); exact rfl)); (case hq120 => exact fun _ _ _ h => h); (case hy120 => (refine Or.inl ⟨by rfl, ?_⟩; (intro w hSw); (try dsimp only at hSw); go_simp; (try with_reducible rfl))); (try simp only [Act.put, List.setIfInBounds_toArray, List.set_cons_zero, List.set_cons_succ])); (refine wpAnyH_take (i := 4) (oi := ?oi121) (v := ?v121) ?hi121 (by kernel_rfl) (by kernel_rfl) (by kernel_rfl) ?hq121 ?hy121 (by assumption) ?hr121; (case hi121 => ((simp only [List.getElem?_toArray, List.getElem?_cons_zero, List.getElem?_cons_succ]); exact rfl)); (case hq121 => exact fun _ _ _ h => h); (case hy121 => (refine Or.inl ⟨by rfl, ?_⟩; (intro w hSw); (try dsimp only at hSw); go_simp; (try with_reducible rfl))); (try simp only [Act.put, List.setIfInBounds_toArray, List.set_cons_zero, List.set_cons_succ])); (refine wpAnyH_take (i := 5) (oi := ?oi122) (v := ?v122) ?hi122 (by kernel_rfl) (by kernel_rfl) (by kernel_rfl) ?hq122 ?hy122 (by assumption) ?hr122; (case hi122 => ((simp only [List.getElem?_toArray, List.getElem?_cons_zero, List.getElem?_cons_succ]); exact rfl)); (case hq122 => exact fun _ _ _ h => h); (case hy122 => (refine Or.inl ⟨by rfl, ?_⟩; (intro w hSw); (try dsimp only at hSw); go_simp; (try with_reducible rfl))); (try simp only [Act.put, List.setIfInBounds_toArray, List.set_cons_zero, List.set_cons_succ])); (refine wpAnyH_take (i := 6) (oi := ?oi123) (v := ?v123) ?hi123 (by kernel_rfl) (by kernel_rfl) (by kernel_rfl) ?hq123 ?hy123 (by assumption) ?hr123; (case hi123 => ((simp only [List.getElem?_toArray, List.getElem?_cons_zero, List.getElem?_cons_succ]); exact rfl)); (case hq123 => exact fun _ _ _ h => h); (case hy123 => (refine Or.inl ⟨by rfl, ?_⟩; (intro w hSw); (try dsimp only at hSw); go_simp; (try with_reducible rfl))); (try simp only [Act.put, List.setIfInBounds_toArray, List.set_cons_zero, List.set_cons_succ])); (refine wpAnyH_take (i := 7) (oi := ?oi124) (v := ?v124) ?hi124 (by kernel_rfl) (by kernel_rfl) (by kernel_rfl) ?hq124 ?hy124 (by assumption) ?hr124; (case hi124 => ((simp only [List.getElem?_toArray, List.getElem?_cons_zero, List.getElem?_cons_succ]); exact rfl)); (case hq124 => exact fun _ _ _ h => h); (case hy124 => (refine Or.inl ⟨by rfl, ?_⟩; (intro w hSw); (try dsimp only at hSw); go_simp; (try with_reducible rfl))); (try simp only [Act.put, List.setIfInBounds_toArray, List.set_cons_zero, List.set_cons_succ])); (refine wpAnyH_take (i := 8) (oi := ?oi125) (v := ?v125) ?hi125 (by kernel_rfl) (by kernel_rfl) (by kernel_rfl) ?hq125 ?hy125 (by assumption) ?hr125; (case hi125 => ((simp only [List.getElem?_toArray, List.getElem?_cons_zero, List.getElem?_cons_succ]); exact rfl)); (case hq125 => exact fun _ _ _ h => h); (case hy125 => (refine Or.inl ⟨by rfl, ?_⟩; (intro w hSw); (try dsimp only at hSw); go_simp; (try with_reducible rfl))); (try simp only [Act.put, List.setIfInBounds_toArray, List.set_cons_zero, List.set_cons_succ])); (refine wpAnyH_take (i := 9) (oi := ?oi126) (v := ?v126) ?hi126 (by kernel_rfl) (by kernel_rfl) (by kernel_rfl) ?hq126 ?hy126 (by assumption) ?hr126; (case hi126 => ((simp only [List.getElem?_toArray, List.getElem?_cons_zero, List.getElem?_cons_succ]); exact rfl)); (case hq126 => exact fun _ _ _ h => h); (case hy126 => (refine Or.inl ⟨by rfl, ?_⟩; (intro w hSw); (try dsimp only at hSw); go_simp; (try with_reducible rfl))); (try simp only [Act.put, List.setIfInBounds_toArray, List.set_cons_zero, List.set_cons_succ])); (refine wpAnyH_take (i := 10) (oi := ?oi127) (v := ?v127) ?hi127 (by kernel_rfl) (by kernel_rfl) (by kernel_rfl) ?hq127 ?hy127 (by assumption) ?hr127; (case hi127 => ((simp only [List.getElem?_toArray, List.getElem?_cons_zero, List.getElem?_cons_succ]); exact rfl)); (case hq127 => exact fun _ _ _ h => h); (case hy127 => (refine Or.inl ⟨by rfl, ?_⟩; (intro w hSw); (try dsimp only at hSw); go_simp; (try with_reducible rfl))); (try simp only [Act.put, List.setIfInBounds_toArray, List.set_cons_zero, List.set_cons_succ])); (refine wpAnyH_take (i := 11) (oi := ?oi128) (v := ?v128) ?hi128 (by kernel_rfl) (by kernel_rfl) (by kernel_rfl) ?hq128 ?hy128 (by assumption) ?hr128; (case hi128 => ((simp only [List.getElem?_toArray, List.getElem?_cons_zero, List.getElem?_cons_succ]); exact rfl)); (case hq128 => exact fun _ _ _ h => h); (case hy128 => (refine Or.inl ⟨by rfl, ?_⟩; (intro w hSw); (try dsimp only at hSw); go_simp; (try with_reducible rfl))); (try simp only [Act.put, List.setIfInBounds_toArray, List.set_cons_zero, List.set_cons_succ])); (refine wpAnyH_take (i := 12) (oi := ?oi129) (v := ?v129) ?hi129 (by kernel_rfl) (by kernel_rfl) (by kernel_rfl) ?hq129 ?hy129 (by assumption) ?hr129; (case hi129 => ((simp only [List.getElem?_toArray, List.getElem?_cons_zero, List.getElem?_cons_succ]); exact rfl)); (case hq129 => exact fun _ _ _ h => h); (case hy129 => (refine Or.inl ⟨by rfl, ?_⟩; (intro w hSw); (try dsimp only at hSw); go_simp; (try with_reducible rfl))); (try simp only [Act.put, List.setIfInBounds_toArray, List.set_cons_zero, List.set_cons_succ])); (refine wpAnyH_take (i := 13) (oi := ?oi130) (v := ?v130) ?hi130 (by kernel_rfl) (by kernel_rfl) (by kernel_rfl) ?hq130 ?hy130 (by assumption) ?hr130; (case hi130 => ((simp only [List.getElem?_toArray, List.getElem?_cons_zero, List.getElem?_cons_succ]); exact rfl)); (case hq130 => exact fun _ _ _ h => h); (case hy130 => (refine Or.inl ⟨by rfl, ?_⟩; (intro w hSw); (try dsimp only at hSw); go_simp; (try with_reducible rfl))); (try simp only [Act.put, List.setIfInBounds_toArray, List.set_cons_zero, List.set_cons_succ])); (refine wpAnyH_take (i := 14) (oi := ?oi131) (v := ?v131) ?hi131 (by kernel_rfl) (by kernel_rfl) (by kernel_rfl) ?hq131 ?hy131 (by assumption) ?hr131; (case hi131 => ((simp only [List.getElem?_toArray, List.getElem?_cons_zero, List.getElem?_cons_succ]); exact rfl)); (case hq131 => exact fun _ _ _ h => h); (case hy131 => (refine Or.inl ⟨by rfl, ?_⟩; (intro w hSw); (try dsimp only at hSw); go_simp; (try with_reducible rfl))); (try simp only [Act.put, List.setIfInBounds_toArray, List.set_cons_zero, List.set_cons_succ])); (refine wpAnyH_take (i := 16) (oi := ?oi132) (v := ?v132) ?hi132 (by kernel_rfl) (by kernel_rfl) (by kernel_rfl) ?hq132 ?hy132 (by assumption) ?hr132; (case hi132 => ((simp only [List.getElem?_toArray, List.getElem?_cons_zero, List.getElem?_cons_succ]); exact rfl)); (case hq132 => exact fun _ _ _ h => h); (case hy132 => (refine Or.inl ⟨by rfl, ?_⟩; (intro w hSw); (try dsimp only at hSw); go_simp; (try with_reducible rfl))); (try simp only [Act.put, List.setIfInBounds_toArray, List.set_cons_zero, List.set_cons_succ])); (refine wpAnyH_take (i := 17) (oi := ?oi133) (v := ?v133) ?hi133 (by kernel_rfl) (by kernel_rfl) (by kernel_rfl) ?hq133 ?hy133 (by assumption) ?hr133; (case hi133 => ((simp only [List.getElem?_toArray, List.getElem?_cons_zero, List.getElem?_cons_succ]); exact rfl)); (case hq133 => exact fun _ _ _ h => h); (case hy133 => (refine Or.inl ⟨by rfl, ?_⟩; (intro w hSw); (try dsimp only at hSw); go_simp; (try with_reducible rfl))); (try simp only [Act.put, List.setIfInBounds_toArray, List.set_cons_zero, List.set_cons_succ])); (refine wpAnyH_take (i := 18) (oi := ?oi134) (v := ?v134) ?hi134 (by kernel_rfl) (by kernel_rfl) (by kernel_rfl) ?hq134 ?hy134 (by assumption) ?hr134; (case hi134 => ((simp only [List.getElem?_toArray, List.getElem?_cons_zero, List.getElem?_cons_succ]); exact rfl)); (case hq134 => exact fun _ _ _ h => h); (case hy134 => (refine Or.inl ⟨by rfl, ?_⟩; (intro w hSw); (try dsimp only at hSw); go_simp; (try with_reducible rfl))); (try simp only [Act.put, List.setIfInBounds_toArray, List.set_cons_zero, List.set_cons_succ]))
            refine wpAnyH_ready (rs := [15]) (by kernel_rfl) (by simp) ?_; refine AllReadyH.cons rfl (fun K hK => ?_) AllReadyH.nil; go_simp
            refine hK.out _ _ ?ks (fun hHeld => ?_); (case ks => (trivial)); clear hK K; (try simp only [Act.put, List.setIfInBounds_toArray, List.set_cons_zero, List.set_cons_succ])
            (refine wpAnyH_take (i := 19) (oi := ?oi135) (v := ?v135) ?hi135 (by kernel_rfl) (by kernel_rfl) (by kernel_rfl) ?hq135 ?hy135 (by assumption) ?hr135; (case hi135 => ((simp only [List.getElem?_toArray, List.getElem?_cons_zero, List.getElem?_cons_succ]); exact rfl)); (case hq135 => exact fun _ _ _ h => h); (case hy135 => (refine Or.inl ⟨by rfl, ?_⟩; (intro w hSw); (try dsimp only at hSw); go_simp; (try with_reducible rfl))); (try simp only [Act.put, List.setIfInBounds_toArray, List.set_cons_zero, List.set_cons_succ])); (refine wpAnyH_take (i := 20) (oi := ?oi136) (v := ?v136) ?hi136 (by kernel_rfl) (by kernel_rfl) (by kernel_rfl) ?hq136 ?hy136 (by assumption) ?hr136; (case hi136 => ((simp only [List.getElem?_toArray, List.getElem?_cons_zero, List.getElem?_cons_succ]); exact rfl)); (case hq136 => exact fun _ _ _ h => h); (case hy136 => (refine Or.inl ⟨by rfl, ?_⟩; (intro w hSw); (try dsimp only at hSw); go_simp; (try with_reducible rfl))); (try simp only [Act.put, List.setIfInBounds_toArray, List.set_cons_zero, List.set_cons_succ]))
            refine wpAnyH_ready (rs := [21]) (by kernel_rfl) (by simp) ?_; refine AllReadyH.cons rfl (fun K hK => ?_) AllReadyH.nil; go_simp
            refine hK.out _ _ trivial (fun hHeld => ?_); clear hK K
            refine wpAnyH_done (by kernel_rfl) ?_ _
            go_wp2
            go_roundw
            case rel => exact ⟨k + 1, by go_num, by omega, hst⟩
            case measure => simp [intOf]; omega
          · have hnx : Hid (inMul (cyc P.length) P Q i (outMul (cyc P.length) P Q P.length i) k = outMul (cyc P.length) P Q P.length (i + 1)) := by unfold Hid; rw [outMul, show k = Q.length from by omega]
            rw [hnx.out] at hout
            go_wp2
            go_roundw
            case rel => exact ⟨i + 1, by go_num, by omega, hout⟩
            case measure => simp [intOf]; omega
      · have hend : Hid (outMul (cyc P.length) P Q P.length i = mulF P Q) := by unfold Hid; rw [hr.out, show i = P.length from by omega]
        have hlm : Hid ((mulF P Q).length = P.length) := by unfold Hid; rw [← hend.out, hsl.out]
        rw [hend.out] at hout
        have hfin : Hid (RetInts w (mulF P Q) (.returned (.slice (some ⟨go, 0, none⟩) P.length P.length)) wr) := ⟨go, P.length, by rw [hlm.out], hout⟩
        go_wp2
        go_ret
        exact hfin.out
  · have hn : cntOk P Q = false := by simpa using h
    have hr := hid (mulF_no hn)
    clear h
    go_enter Try.func22, Try.ntmps22
    go_wp2_with fail
    refine (areCounts_any _ _ _ _ _ _ _ hP hQ hg hg2).mono ?_; rintro e w1 ⟨rfl, hb1⟩; rw [hn]
    have hgr1 := Growing.start (w := w) (w0 := w1) hb1 hb1.size #[] rfl
    go_wp2
    go_ret
    rw [hr.out]
    exact hgr1.ret
end Go.Proofs.Ytickcopllojchaa
