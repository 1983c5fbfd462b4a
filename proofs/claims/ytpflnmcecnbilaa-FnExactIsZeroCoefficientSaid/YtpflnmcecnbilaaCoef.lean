/-
  Contracts: how often a character takes each value on a set.
-/
import Derived.Test.YtpflnmcecnbilaaKernel
import Derived.Test.YtpflnmcecnbilaaTable
namespace Go.Proofs.Ytpflnmcecnbilaa
open Go.RowKit

def valsTo (m : List Nat) (K : Nat) (L : List Nat) (k : Nat) : List Nat := (L.take k).map (charN m K)
theorem valsTo_step {m L : List Nat} {K k : Nat} (h : k < L.length) : valsTo m K L (k + 1) = valsTo m K L k ++ [charN m K (L.getD k 0)] := by
  unfold valsTo; rw [take_snoc L 0 k h, List.map_append]; rfl
theorem valsTo_count {m L : List Nat} {K k z : Nat} (hL : L.length ≤ 24) : (valsTo m K L k).count z ≤ 24 := by
  refine Nat.le_trans List.count_le_length ?_
  unfold valsTo; rw [List.length_map, List.length_take]; omega
def coefN (m : List Nat) (A K : Nat) : List Nat := cntTo (expN m) (valsTo m K (mem A) (mem A).length)
def coefOk (l : List Int) (a k : Int) : Bool := isSetB l a && isEl l k
theorem coefOk_yes {l : List Int} {a k : Int} (h : coefOk l a k = true) : isSetB l a = true ∧ isEl l k = true := by simpa [coefOk] using h
theorem coefOk_no {l : List Int} {a k : Int} (h : coefOk l a k = false) : isSetB l a = false ∨ (isSetB l a = true ∧ isEl l k = false) := by
  cases h1 : isSetB l a <;> cases h2 : isEl l k <;> simp_all [coefOk]
theorem coefOk_iff {l : List Int} {a k : Int} (h : coefOk l a k = true) : ∃ m A K, Ok m ∧ l = cst m ∧ a = ((A : Nat) : Int) ∧ k = ((K : Nat) : Int) ∧ A < 2 ^ prodN m ∧ K < prodN m := by
  obtain ⟨h1, h2⟩ := coefOk_yes h
  obtain ⟨m, A, hm, rfl, rfl, hA⟩ := isSetB_iff.1 h1
  rw [isEl_yes hm] at h2
  simp only [Bool.and_eq_true, decide_eq_true_eq] at h2
  exact ⟨m, A, k.toNat, hm, rfl, rfl, by omega, hA, by omega⟩
def coefF (l : List Int) (a k : Int) : List Int := if coefOk l a k = true then cst (coefN (toN l) a.toNat k.toNat) else []
theorem coefF_yes {m : List Nat} {A K : Nat} (h : coefOk (cst m) A K = true) : coefF (cst m) A K = cst (coefN m A K) := by
  unfold coefF; rw [if_pos h, toN_cst, Int.toNat_natCast, Int.toNat_natCast]
theorem coefF_no {l : List Int} {a k : Int} (h : coefOk l a k = false) : coefF l a k = [] := by unfold coefF; rw [if_neg (by simp [h])]
theorem coefF_len (l : List Int) (a k : Int) : (coefF l a k).length ≤ 1048576 := by
  by_cases h : coefOk l a k = true
  · have h2 := coefOk_iff h
    obtain ⟨m, A, K, hm, rfl, rfl, rfl, hA, hK⟩ := h2
    rw [coefF_yes h, cst_length, coefN, cntTo_len]; have := expN_bd hm; omega
  · rw [coefF_no (by simpa using h)]; simp
theorem mem_ord' {A n x : Nat} (hA : A < 2 ^ n) (hx : x ∈ mem A) : x < n := by
  have h := mem_testBit hx
  rcases Nat.lt_or_ge x n with h1 | h1
  · exact h1
  · have := Nat.testBit_lt_two_pow (Nat.lt_of_lt_of_le hA (Nat.pow_le_pow_right (by omega : 0 < 2) h1))
    rw [this] at h; simp at h
/-- the world in the loop: the box, the list, the table -/
structure StC (w : World) (b off cap : Nat) (m : List Nat) (g1 go E : Nat) (K T : List Nat) (wr : World) : Prop where
  st : St w b off cap (cst m) wr
  l1 : GrpAt wr g1 0 (cst K)
  out : Made w (cst T) go E wr
  ne1 : g1 ≠ go
  neb : b ≠ go
  new : w.heap.size ≠ go
section
variable {w wr w1 : World} {b off cap g1 go E : Nat} {m K T : List Nat}
theorem StC.step (h : StC w b off cap m g1 go E K T wr) (hb : Below wr.heap.size wr w1) : StC w b off cap m g1 go E K T w1 :=
  ⟨h.st.step hb, h.l1.below hb, h.out.step hb, h.ne1, h.neb, h.new⟩
theorem StC.store (h : StC w b off cap m g1 go E K T wr) (z x : Nat) : StC w b off cap m g1 go E K (T.set z x) (wr.setCell ⟨go, z, none⟩ (.int .i64 (x : Int))) :=
  ⟨h.st.setCell h.out.base h.new h.neb _ _, h.l1.setCell h.ne1 _, by rw [← cst_set]; exact h.out.store z x, h.ne1, h.neb, h.new⟩
theorem StC.hold {k x : Nat} (h : StC w b off cap m g1 go E K T wr) (hk : k < (cst K).length) (hx : Hid (K.getD k 0 = x)) :
    wr.cell? ⟨w.heap.size, 0, none⟩ = some (.slice (some ⟨b, off, none⟩) (cst m).length cap) ∧ wr.cell? ⟨g1, k, none⟩ = some (.int .i64 (x : Int)) ∧ StC w b off cap m g1 go E K T wr := ⟨h.st.box, by rw [h.l1.nat0 k hk, hx.out], h⟩
theorem StC.keep {k x : Nat} (h : wr.cell? ⟨w.heap.size, 0, none⟩ = some (.slice (some ⟨b, off, none⟩) (cst m).length cap) ∧ wr.cell? ⟨g1, k, none⟩ = some (.int .i64 (x : Int)) ∧ StC w b off cap m g1 go E K T wr) (hk : k < (cst K).length) (hx : Hid (K.getD k 0 = x)) (hb : Below wr.heap.size wr w1) :
    w1.cell? ⟨w.heap.size, 0, none⟩ = some (.slice (some ⟨b, off, none⟩) (cst m).length cap) ∧ w1.cell? ⟨g1, k, none⟩ = some (.int .i64 (x : Int)) ∧ StC w b off cap m g1 go E K T w1 := (h.2.2.step hb).hold hk hx
theorem StC.grpOf {k x : Nat} (h : wr.cell? ⟨w.heap.size, 0, none⟩ = some (.slice (some ⟨b, off, none⟩) (cst m).length cap) ∧ wr.cell? ⟨g1, k, none⟩ = some (.int .i64 (x : Int)) ∧ StC w b off cap m g1 go E K T wr) : GrpAt wr b off (cst m) := h.2.2.st.grp
end
set_option maxHeartbeats 1000000 in
theorem coefficientCounts_any (b off cap : Nat) (l : List Int) (a k : Int) (w : World) (hl : l.length ≤ 1099511627776) (hg : GrpAt w b off l) :
    Calls Try.prog 156 #[.agg #[.slice (some ⟨b, off, none⟩) l.length cap], .int .i64 a, .int .i64 k] w (RetInts w (coefF l a k)) := by
  have hst := St.init cap 26 hg
  by_cases h : coefOk l a k = true
  · obtain ⟨i0, hi, hz0, hz1, hz2⟩ := info_parts info_int
    obtain ⟨y1, y2⟩ := coefOk_yes h
    have h2 := coefOk_iff h
    obtain ⟨m, A, K, hm, rfl, rfl, rfl, hA, hK⟩ := h2
    rw [coefF_yes h]
    have hA' := Nat.lt_of_lt_of_le hA hm.pow_le
    have hord := hm.ord
    have hE := expN_bd hm
    have hL24 : (mem A).length ≤ 24 := card_le A
    have hmo : Hid (∀ i, i < (mem A).length → (mem A).getD i 0 < prodN m) := fun i hi => mem_ord' hA (getD_mem _ 0 i hi)
    clear h hA
    go_enter Try.func156, Try.ntmps156
    go_wp2_with (first | (go_at_call 132; refine (isSet_any _ _ _ _ _ _ hl (St.grp (by assumption))).mono ?_; rintro e wN ⟨rfl, hbN⟩; have hstN := St.step (by assumption) hbN; have hboxN := hstN.box; clear hbN) | (go_at_call 145; refine (has_any _ _ _ _ _ _ hl (St.grp (by assumption))).mono ?_; rintro e wN ⟨rfl, hbN⟩; have hstN := St.step (by assumption) hbN; have hboxN := hstN.box; clear hbN))
    have hst1 : St w b off cap (cst m) wN := by assumption
    refine (exponentOf_yes _ _ _ _ _ hm hst1.grp).mono ?_; rintro e w2 ⟨rfl, hb2⟩; have hst3 := hst1.step hb2
    clear hst hst1 hb2 hboxN
    go_wp2_with (refine wpList_make_full _ rfl _ _ 24 rfl w.heap.size 3 i0 (.int .i64 0) 1 Try.underlying24 hi hz0 hz1 .i64 .i64 _ _ (expN m) rfl rfl rfl rfl ?c2 ?c3 ?c4 ?_)
    case c2 => rw [hz2]; omega
    case c3 => simp only [maxLen]; omega
    case c4 => exact hst3.below.size
    intro w3 hown hgr
    have hmk := Made.make hst3.below hown hgr
    have hst4 : St w b off cap (cst m) w3 := hst3.step ⟨hgr.os, hgr.tape, hgr.output, hgr.size, fun k hk => hgr.block k hk (by simp)⟩
    have hne := hmk.ne hg
    have hnw : w.heap.size ≠ w2.heap.size := by have := hst3.size; omega
    generalize w2.heap.size = go at *
    clear hown hgr hst3
    go_wp2_with fail
    refine (members_any A _ hA').mono ?_; rintro e w4 ⟨g1, c1, rfl, hm1⟩
    have hstart : Hid (StC w b off cap m g1 go (expN m) (mem A) (cntTo (expN m) (valsTo m K (mem A) 0)) w4) := by
      have e : cst (cntTo (expN m) (valsTo m K (mem A) 0)) = List.replicate (expN m) 0 := by simp [valsTo, cntTo_nil, cst_replicate]
      exact ⟨hst4.step hm1.below, hm1.grp, by rw [e]; exact hmk.step hm1.below, by have := hm1.base; have := hmk.lt; omega, hne, hnw⟩
    clear hm1 hst4 hmk
    go_wp2
    go_loopw [27] (fun i wr => ∃ k : Nat, i = .int .i64 k ∧ k ≤ (cst (mem A)).length ∧ StC w b off cap m g1 go (expN m) (mem A) (cntTo (expN m) (valsTo m K (mem A) k)) wr) (fun i _ => (cst (mem A)).length - (intOf i).toNat)
    case atStart => exact ⟨0, rfl, by omega, hstart.out⟩
    case round =>
      clear hstart
      rename_i wr
      obtain ⟨k, rfl, hk, hC⟩ := hrel
      have hL24' : (cst (mem A)).length ≤ 24 := by rw [cst_length]; exact hL24
      by_cases hlt : k < (cst (mem A)).length
      · have hltm : k < (mem A).length := by rw [← cst_length]; exact hlt
        have hck := hC.l1.nat0 k hlt
        have hbox := hC.st.box
        have hxo := hmo.out k hltm
        have hps := hid (valsTo_step (m := m) (K := K) hltm)
        generalize (mem A).getD k 0 = x at *
        have hz := charN_lt hm K x
        have hcnt := valsTo_count (m := m) (K := K) (k := k) (z := charN m K x) hL24
        have hst0 : Hid ((cntTo (expN m) (valsTo m K (mem A) k)).set (charN m K x) ((valsTo m K (mem A) k).count (charN m K x) + 1) = cntTo (expN m) (valsTo m K (mem A) (k + 1))) := by
          unfold Hid; rw [hps.out]; exact cntTo_step hz
        have hcl : Hid ((cntTo (expN m) (valsTo m K (mem A) k)).getD (charN m K x) 0 = (valsTo m K (mem A) k).count (charN m K x)) := cntTo_getD hz
        have hcle : charN m K x < (cst (cntTo (expN m) (valsTo m K (mem A) k))).length := by rw [cst_length, cntTo_len]; exact hz
        generalize (valsTo m K (mem A) k).count (charN m K x) = c at *
        go_wp2_with fail
        refine (characterValue_yes _ _ _ _ _ _ _ hm hK hxo hC.st.grp).mono ?_; rintro e w6 ⟨rfl, hb6⟩
        have hT6 := hC.step hb6
        have hcc : w6.cell? ⟨go, charN m K x, none⟩ = some (.int .i64 (c : Int)) := by rw [hT6.out.cell _ hcle, cst_getD, hcl.out]
        have hfz := hT6.out.frozen (charN m K x)
        have hT7 := hT6.store (charN m K x) (c + 1)
        rw [hst0.out] at hT7
        generalize charN m K x = z at *
        clear hC hb6 hT6 hcle
        go_wp2
        go_roundw
        case rel => exact ⟨k + 1, by go_num, by omega, hT7⟩
        case measure => simp [intOf]; omega
      · have hend : Hid (cst (cntTo (expN m) (valsTo m K (mem A) k)) = cst (coefN m A K)) := by unfold Hid coefN; rw [show k = (mem A).length from by rw [cst_length] at hk hlt; omega]
        have hlen : (cst (coefN m A K)).length = expN m := by rw [cst_length]; exact cntTo_len _ _
        have hout := hC.out
        rw [hend.out] at hout
        have hfin : Hid (RetInts w (cst (coefN m A K)) (.returned (.slice (some ⟨go, 0, none⟩) (expN m) (expN m))) wr) := ⟨go, expN m, by rw [hlen], hout⟩
        clear hlen
        go_wp2
        go_ret
        exact hfin.out
  · have hn : coefOk l a k = false := by simpa using h
    rw [coefF_no hn]
    clear h
    rcases coefOk_no hn with h1 | ⟨h1, h2⟩
    all_goals
      go_enter Try.func156, Try.ntmps156
      go_wp2_with (first | (go_at_call 132; refine (isSet_any _ _ _ _ _ _ hl (St.grp (by assumption))).mono ?_; rintro e wN ⟨rfl, hbN⟩; have hstN := St.step (by assumption) hbN; have hboxN := hstN.box; clear hbN) | (go_at_call 145; refine (has_any _ _ _ _ _ _ hl (St.grp (by assumption))).mono ?_; rintro e wN ⟨rfl, hbN⟩; have hstN := St.step (by assumption) hbN; have hboxN := hstN.box; clear hbN))
      have hfin := hid (Growing.start (w := w) (w0 := wN) (St.below (by assumption)) (Below.size (St.below (by assumption))) #[] rfl)
      go_ret
      exact hfin.out.ret
set_option maxHeartbeats 1000000 in
theorem sCoefficientCounts_any (b off cap : Nat) (l : List Int) (a k : Int) (w : World) (hl : l.length ≤ 1099511627776) (hg : GrpAt w b off l) :
    Calls Try.prog 152 #[.agg #[.slice (some ⟨b, off, none⟩) l.length cap], .int .i64 a, .int .i64 k] w (RetInts w (coefF l a k)) := by
  have hst := St.init cap 26 hg
  by_cases h : coefOk l a k = true
  · obtain ⟨i0, hi, hz0, hz1, hz2⟩ := info_parts info_int
    obtain ⟨y1, y2⟩ := coefOk_yes h
    have h2 := coefOk_iff h
    obtain ⟨m, A, K, hm, rfl, rfl, rfl, hA, hK⟩ := h2
    rw [coefF_yes h]
    have hA' := Nat.lt_of_lt_of_le hA hm.pow_le
    have hord := hm.ord
    have hE := expN_bd hm
    have hL24 : (mem A).length ≤ 24 := card_le A
    have hmo : Hid (∀ i, i < (mem A).length → (mem A).getD i 0 < prodN m) := fun i hi => mem_ord' hA (getD_mem _ 0 i hi)
    clear h hA
    go_enter Try.func152, Try.ntmps152
    go_wp2_with (first | (go_at_call 64; refine (sIsSet_any _ _ _ _ _ _ hl (St.grp (by assumption))).mono ?_; rintro e wN ⟨rfl, hbN⟩; have hstN := St.step (by assumption) hbN; have hboxN := hstN.box; clear hbN) | (go_at_call 139; refine (l2Is_any _ _ _ _ _ _ hl (St.grp (by assumption))).mono ?_; rintro e wN ⟨rfl, hbN⟩; have hstN := St.step (by assumption) hbN; have hboxN := hstN.box; clear hbN))
    have hst1 : St w b off cap (cst m) wN := by assumption
    refine (sExponentOf_yes _ _ _ _ _ hm hst1.grp).mono ?_; rintro e w2 ⟨rfl, hb2⟩; have hst3 := hst1.step hb2
    clear hst hst1 hb2 hboxN
    go_wp2_with (refine wpList_make_full _ rfl _ _ 24 rfl w.heap.size 3 i0 (.int .i64 0) 1 Try.underlying24 hi hz0 hz1 .i64 .i64 _ _ (expN m) rfl rfl rfl rfl ?c2 ?c3 ?c4 ?_)
    case c2 => rw [hz2]; omega
    case c3 => simp only [maxLen]; omega
    case c4 => exact hst3.below.size
    intro w3 hown hgr
    have hmk := Made.make hst3.below hown hgr
    have hst4 : St w b off cap (cst m) w3 := hst3.step ⟨hgr.os, hgr.tape, hgr.output, hgr.size, fun k hk => hgr.block k hk (by simp)⟩
    have hne := hmk.ne hg
    have hnw : w.heap.size ≠ w2.heap.size := by have := hst3.size; omega
    generalize w2.heap.size = go at *
    clear hown hgr hst3
    go_wp2_with fail
    refine (l3List_any A _ hA').mono ?_; rintro e w4 ⟨g1, c1, rfl, hm1⟩
    have hstart : Hid (StC w b off cap m g1 go (expN m) (mem A) (cntTo (expN m) (valsTo m K (mem A) 0)) w4) := by
      have e : cst (cntTo (expN m) (valsTo m K (mem A) 0)) = List.replicate (expN m) 0 := by simp [valsTo, cntTo_nil, cst_replicate]
      exact ⟨hst4.step hm1.below, hm1.grp, by rw [e]; exact hmk.step hm1.below, by have := hm1.base; have := hmk.lt; omega, hne, hnw⟩
    clear hm1 hst4 hmk
    go_wp2
    go_loopw [9] (fun i wr => ∃ k : Nat, i = .int .i64 k ∧ k ≤ (cst (mem A)).length ∧ StC w b off cap m g1 go (expN m) (mem A) (cntTo (expN m) (valsTo m K (mem A) k)) wr) (fun i _ => (cst (mem A)).length - (intOf i).toNat)
    case atStart => exact ⟨0, rfl, by omega, hstart.out⟩
    case round =>
      clear hstart
      rename_i wr
      obtain ⟨k, rfl, hk, hC⟩ := hrel
      have hL24' : (cst (mem A)).length ≤ 24 := by rw [cst_length]; exact hL24
      by_cases hlt : k < (cst (mem A)).length
      · have hltm : k < (mem A).length := by rw [← cst_length]; exact hlt
        have hxo := hmo.out k hltm
        have hps := hid (valsTo_step (m := m) (K := K) hltm)
        obtain ⟨x, hx⟩ : ∃ x, Hid ((mem A).getD k 0 = x) := ⟨_, rfl⟩
        rw [hx.out] at hps hxo
        have hz := charN_lt hm K x
        have hcnt := valsTo_count (m := m) (K := K) (k := k) (z := charN m K x) hL24
        have hst0 : Hid ((cntTo (expN m) (valsTo m K (mem A) k)).set (charN m K x) ((valsTo m K (mem A) k).count (charN m K x) + 1) = cntTo (expN m) (valsTo m K (mem A) (k + 1))) := by
          unfold Hid; rw [hps.out]; exact cntTo_step hz
        have hcl : Hid ((cntTo (expN m) (valsTo m K (mem A) k)).getD (charN m K x) 0 = (valsTo m K (mem A) k).count (charN m K x)) := cntTo_getD hz
        have hcle : charN m K x < (cst (cntTo (expN m) (valsTo m K (mem A) k))).length := by rw [cst_length, cntTo_len]; exact hz
        generalize (valsTo m K (mem A) k).count (charN m K x) = c at *
        have hh := (hC.step (Below.refl _ _).drew).hold hlt hx
        clear hC
        go_wp2
        go_region_held3 (fun w' => w'.cell? ⟨w.heap.size, 0, none⟩ = some (.slice (some ⟨b, off, none⟩) (cst m).length cap) ∧ w'.cell? ⟨g1, k, none⟩ = some (.int .i64 (x : Int)) ∧ StC w b off cap m g1 go (expN m) (mem A) (cntTo (expN m) (valsTo m K (mem A) k)) w') (first | exact hh | exact StC.keep (by assumption) hlt hx hb6)
          (first | (go_at_call 183; refine (l7Value_any _ _ _ _ _ _ _ hm (by omega) (by omega) (StC.grpOf (by assumption))).mono ?_; rintro e w6 ⟨rfl, hb6⟩))
        have hT6 : StC w b off cap m g1 go (expN m) (mem A) (cntTo (expN m) (valsTo m K (mem A) k)) w6 := And.right (And.right (by assumption))
        have hcc : w6.cell? ⟨go, charN m K x, none⟩ = some (.int .i64 (c : Int)) := by rw [hT6.out.cell _ hcle, cst_getD, hcl.out]
        have hfz := hT6.out.frozen (charN m K x)
        have hT7 := hT6.store (charN m K x) (c + 1)
        rw [hst0.out] at hT7
        generalize charN m K x = z at *
        clear hh hb6 hT6 hcle
        go_wp2
        go_roundw
        case rel => exact ⟨k + 1, by go_num, by omega, hT7⟩
        case measure => simp [intOf]; omega
      · have hend : Hid (cst (cntTo (expN m) (valsTo m K (mem A) k)) = cst (coefN m A K)) := by unfold Hid coefN; rw [show k = (mem A).length from by rw [cst_length] at hk hlt; omega]
        have hlen : (cst (coefN m A K)).length = expN m := by rw [cst_length]; exact cntTo_len _ _
        have hout := hC.out
        rw [hend.out] at hout
        have hfin : Hid (RetInts w (cst (coefN m A K)) (.returned (.slice (some ⟨go, 0, none⟩) (expN m) (expN m))) wr) := ⟨go, expN m, by rw [hlen], hout⟩
        clear hlen
        go_wp2
        go_ret
        exact hfin.out
  · have hn : coefOk l a k = false := by simpa using h
    rw [coefF_no hn]
    clear h
    rcases coefOk_no hn with h1 | ⟨h1, h2⟩
    all_goals
      go_enter Try.func152, Try.ntmps152
      go_wp2_with (first | (go_at_call 64; refine (sIsSet_any _ _ _ _ _ _ hl (St.grp (by assumption))).mono ?_; rintro e wN ⟨rfl, hbN⟩; have hstN := St.step (by assumption) hbN; have hboxN := hstN.box; clear hbN) | (go_at_call 139; refine (l2Is_any _ _ _ _ _ _ hl (St.grp (by assumption))).mono ?_; rintro e wN ⟨rfl, hbN⟩; have hstN := St.step (by assumption) hbN; have hboxN := hstN.box; clear hbN))
      have hfin := hid (Growing.start (w := w) (w0 := wN) (St.below (by assumption)) (Below.size (St.below (by assumption))) #[] rfl)
      go_ret
      exact hfin.out.ret
end Go.Proofs.Ytpflnmcecnbilaa
