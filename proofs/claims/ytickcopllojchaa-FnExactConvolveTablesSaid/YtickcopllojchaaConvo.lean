/-
  Contracts: tables over a group, folded.
-/
import Derived.Test.YtickcopllojchaaMulC
import Derived.Test.YtickcopllojchaaTable
import Derived.Test.YtickcopllojchaaPrime
import Derived.Test.YtickcopllojchaaCubeOf
namespace Go.Proofs.Ytickcopllojchaa
open Go.RowKit

def tabB (l P : List Int) : Bool := allIn (-10000) 10000 P && grp l && decide (P.length = ordN l)
def cvOk (l P Q : List Int) : Bool := tabB l P && tabB l Q
def cvF (l P Q : List Int) : List Int := if cvOk l P Q = true then outMul (addN (toN l)) P Q (prodN (toN l)) P.length else []
theorem cvF_yes {m : List Nat} {P Q : List Int} (h : cvOk (cst m) P Q = true) : cvF (cst m) P Q = outMul (addN m) P Q (prodN m) P.length := by unfold cvF; rw [if_pos h, toN_cst]
theorem cvF_no {l P Q : List Int} (h : cvOk l P Q = false) : cvF l P Q = [] := by unfold cvF; rw [if_neg (by simp [h])]
theorem cvOk_yes {l P Q : List Int} (h : cvOk l P Q = true) : grp l = true ∧ allIn (-10000) 10000 P = true ∧ allIn (-10000) 10000 Q = true ∧ P.length = ordN l ∧ Q.length = ordN l := by
  simp only [cvOk, tabB, Bool.and_eq_true, decide_eq_true_eq] at h
  exact ⟨h.1.1.2, h.1.1.1, h.2.1.1, h.1.2, h.2.2⟩
theorem cvF_len (l P Q : List Int) : (cvF l P Q).length ≤ 1048576 := by
  by_cases h : cvOk l P Q = true
  · obtain ⟨m, hm, rfl⟩ := grp_ok (cvOk_yes h).1
    rw [cvF_yes h, outMul_len]; have := hm.ord; omega
  · rw [cvF_no (by simpa using h)]; simp
theorem cv_mul {P Q : List Int} (h1 : allIn (-10000) 10000 P = true) (h2 : allIn (-10000) 10000 Q = true) : ∀ i k, i < P.length → k < Q.length → -100000000 ≤ P.getD i 0 * Q.getD k 0 ∧ P.getD i 0 * Q.getD k 0 ≤ 100000000 := fun i k hi hk => by
  have := mul_bd (B := 10000) (by omega) (allIn_at h1 hi) (allIn_at h2 hk)
  omega
theorem cv_bd {f : Nat → Nat → Nat} {n : Nat} {P Q : List Int} (h1 : allIn (-10000) 10000 P = true) (h2 : allIn (-10000) 10000 Q = true) (hP : P.length ≤ 24) (hQ : Q.length ≤ 24) : ∀ i k z, i < P.length → k ≤ Q.length → -100000000000 ≤ (inMul f P Q i (outMul f P Q n i) k).getD z 0 ∧ (inMul f P Q i (outMul f P Q n i) k).getD z 0 ≤ 100000000000 := fun i k z hi hk => by
  have hm := cv_mul h1 h2
  have a := outMul_bd (f := f) (n := n) (V := 100000000) (by omega) hm i (by omega)
  have b := inMul_bd (f := f) (V := 100000000) (by omega) a (fun k hk => hm i k hi hk) k hk z
  have e1 : (i : Int) * ((Q.length : Int) * 100000000) ≤ 24 * (24 * 100000000) := by
    have f1 : (i : Int) * ((Q.length : Int) * 100000000) ≤ 24 * ((Q.length : Int) * 100000000) := Int.mul_le_mul_of_nonneg_right (by omega) (by omega)
    omega
  omega
/-- the world with a boxed group and a table that is written -/
structure StV (w : World) (b off cap : Nat) (m : List Nat) (go : Nat) (T : List Int) (wr : World) : Prop where
  st : St w b off cap (cst m) wr
  out : Made w T go (prodN m) wr
  neb : b ≠ go
  new : w.heap.size ≠ go
section
variable {w wr w1 : World} {b off cap go : Nat} {m : List Nat} {T : List Int}
theorem StV.step (h : StV w b off cap m go T wr) (hb : Below wr.heap.size wr w1) : StV w b off cap m go T w1 := ⟨h.st.step hb, h.out.step hb, h.neb, h.new⟩
theorem StV.drew (h : StV w b off cap m go T wr) : StV w b off cap m go T wr.drew := h.step (Below.refl _ _).drew
theorem StV.store (h : StV w b off cap m go T wr) (z : Nat) (x : Int) : StV w b off cap m go (T.set z x) (wr.setCell ⟨go, z, none⟩ (.int .i64 x)) :=
  ⟨h.st.setCell h.out.base h.new h.neb _ _, h.out.store z x, h.neb, h.new⟩
end
set_option maxHeartbeats 2000000 in
theorem convolveTables_any (b off cap : Nat) (l : List Int) (b2 cap2 : Nat) (P : List Int) (b3 cap3 : Nat) (Q : List Int) (w : World) (hl : l.length ≤ 1099511627776) (hP : P.length ≤ 1099511627776) (hQ : Q.length ≤ 1099511627776) (hg : GrpAt w b off l) (hg2 : GrpAt w b2 0 P) (hg3 : GrpAt w b3 0 Q) :
    Calls Try.prog 29 #[.agg #[.slice (some ⟨b, off, none⟩) l.length cap], .slice (some ⟨b2, 0, none⟩) P.length cap2, .slice (some ⟨b3, 0, none⟩) Q.length cap3] w (RetInts w (cvF l P Q)) := by
  obtain ⟨i0, hi, hz0, hz1, hz2⟩ := info_parts info_int
  have hst := St.init cap 32 hg
  go_enter Try.func29, Try.ntmps29
  go_wp2_with fail
  refine (orderOf_any _ _ _ _ _ hl hst.grp).mono ?_; rintro e w1 ⟨rfl, hb1⟩; have hst1 := hst.step hb1
  clear hst hb1
  go_wp2_with fail
  refine (copyInts_any _ _ _ _ hP (hg2.below hst1.below)).mono ?_; rintro e w2 ⟨g, gc, rfl, hm2⟩
  have hst2 := hst1.step hm2.below
  have hgr := hm2.growing
  have hown := hgr.own
  have hg31 := hg3.below hst2.below
  have hsz := hm2.below.size
  clear hm2
  go_wp2_with (at_builtin; refine wpList_append_own _ rfl _ _ 22 rfl w1.heap.size 3 i0 (.int .i64 0) 1 8 Try.underlying22 hi hz0 hz1 hz2 rfl (by decide) _ _ _ rfl hown ⟨b3, 0, none⟩ Q.length cap3 (Q.map (Value.int .i64)) rfl ?c0 ?c1 ?c2 ?c3 ?c4 ?c5 ?_)
  case c0 => simp
  case c1 => exact news_of hg31
  case c2 => exact one_ints Q
  case c3 => simp only [maxLen]; omega
  case c4 => omega
  case c5 => exact hsz
  intro v' w3 hown' hgrow hnil
  obtain ⟨g', c', rfl, hm⟩ := (hgr.app hown' hgrow hnil).form
  have hgv := hm.grp
  have hst3 := hst1.step hm.below
  have hPQ : Hid ((P ++ Q).length = P.length + Q.length) := by simp [Hid]
  have hal := hid (allIn_app (-10000) 10000 P Q)
  have hlb : (P ++ Q).length ≤ 2199023255552 := by rw [hPQ.out]; omega
  clear hown hown' hgrow hnil hgr hm hg31 hsz hst1 hst2
  generalize P ++ Q = V at *
  have hbox3 := hst3.box
  by_cases h : cvOk l P Q = true
  · obtain ⟨hgp, h1, h2, h3, h4⟩ := cvOk_yes h
    obtain ⟨m, hm, rfl⟩ := grp_ok hgp
    have hr := hid (cvF_yes h)
    rw [ordN_yes hm] at h3 h4 ⊢
    have hord := hm.ord
    have hall0 : allIn (-10000) 10000 V = true := by rw [hal.out, h1, h2]; rfl
    have hVin : Hid (∀ j, j < V.length → inB (V.getD j 0) (-10000) 10000 = true) := fun j hj => inB_iff.2 (allIn_at hall0 hj)
    have hbd := hid (cv_bd (f := addN m) (n := prodN m) h1 h2 (by omega) (by omega))
    have hml := hid (cv_mul h1 h2)
    have hlen : P.length ≤ 24 ∧ Q.length ≤ 24 := by omega
    have e1 : ((P.length : Int) != ((prodN m : Nat) : Int)) = false := by rw [h3]; simp
    have e2 : ((Q.length : Int) != ((prodN m : Nat) : Int)) = false := by rw [h4]; simp
    have hPn := hid h3
    have hbg2 := hg2.blt
    have hbg3 := hg3.blt
    clear h h1 h2 h3 h4 hall0
    go_wp2
    go_loop [23] (fun i => ∃ k : Nat, i = .int .i64 k ∧ k ≤ V.length) (fun i => V.length - (intOf i).toNat)
    case atStart => exact ⟨0, rfl, by omega⟩
    case round =>
      obtain ⟨k, rfl, hk⟩ := hrel
      by_cases hlt : k < V.length
      · have hck := hgv.cell0 k hlt
        have hin := hVin.out k hlt
        generalize V.getD k 0 = x at *
        go_wp2_with fail
        refine (within_any _ _ _ _).mono ?_; rintro e w4 ⟨rfl, rfl⟩; rw [hin]
        go_wp2
        go_round
        case rel => exact ⟨k + 1, by go_num, by omega⟩
        case measure => simp [intOf]; omega
      · go_wp2_with fail
        refine (isGroup_any _ _ _ _ _ hl hst3.grp).mono ?_; rintro e w4 ⟨rfl, hb4⟩; rw [hgp]; have hst4 := hst3.step hb4
        have hsz4 := hst4.below.size
        have hsb4 := hst4.size
        clear hst3 hbox3 hb4 hgv hVin
        go_wp2_with (refine wpList_make_full _ rfl _ _ 22 rfl w.heap.size 3 i0 (.int .i64 0) 1 Try.underlying22 hi hz0 hz1 .i64 .i64 _ _ (prodN m) rfl rfl rfl rfl ?c2 ?c3 ?c4 ?_)
        case c2 => rw [hz2]; omega
        case c3 => simp only [maxLen]; omega
        case c4 => exact hsz4
        intro w5 hown hgr
        have hmk := Made.make hst4.below hown hgr
        have hst5 : St w b off cap (cst m) w5 := hst4.step ⟨hgr.os, hgr.tape, hgr.output, hgr.size, fun k hk => hgr.block k hk (by simp)⟩
        have hne := hmk.ne hg
        have hnw : w.heap.size ≠ w4.heap.size := by omega
        have hV0 : StV w b off cap m w4.heap.size (outMul (addN m) P Q (prodN m) 0) w5 := ⟨hst5, hmk, hne, hnw⟩
        clear hown hgr hmk hst5 hst4 hsz4 hsb4 hne hnw
        generalize w4.heap.size = go at *
        have hsl := hid (outMul_len (addN m) P Q (prodN m))
        go_wp2
        go_loopw [52] (fun u wr => ∃ i : Nat, u = .int .i64 i ∧ i ≤ P.length ∧ StV w b off cap m go (outMul (addN m) P Q (prodN m) i) wr) (fun u _ => P.length - (intOf u).toNat)
        case atStart => exact ⟨0, rfl, by omega, hV0⟩
        case round =>
          clear hV0
          rename_i wr
          obtain ⟨i, rfl, hi1, hout⟩ := hrel
          by_cases hlt : i < P.length
          · have hcx := (hg2.below hout.st.below).cell0 i hlt
            obtain ⟨x, hx⟩ : ∃ x, Hid (P.getD i 0 = x) := ⟨_, rfl⟩
            rw [hx.out] at hcx
            have hin := hid (inMul_len (addN m) P Q i (outMul (addN m) P Q (prodN m) i))
            have hbi : Hid (∀ k z, k ≤ Q.length → -100000000000 ≤ (inMul (addN m) P Q i (outMul (addN m) P Q (prodN m) i) k).getD z 0 ∧ (inMul (addN m) P Q i (outMul (addN m) P Q (prodN m) i) k).getD z 0 ≤ 100000000000) := fun k z hk => hbd.out i k z hlt hk
            have hmi : Hid (∀ k, k < Q.length → -100000000 ≤ x * Q.getD k 0 ∧ x * Q.getD k 0 ≤ 100000000) := fun k hk => by rw [← hx.out]; exact hml.out i k hlt hk
            have hstart : Hid (StV w b off cap m go (inMul (addN m) P Q i (outMul (addN m) P Q (prodN m) i) 0) wr) := hout
            clear hout
            go_wp2
            go_loopw [59] (fun u wr => ∃ k : Nat, u = .int .i64 k ∧ k ≤ Q.length ∧ StV w b off cap m go (inMul (addN m) P Q i (outMul (addN m) P Q (prodN m) i) k) wr) (fun u _ => Q.length - (intOf u).toNat)
            case atStart => exact ⟨0, rfl, by omega, hstart.out⟩
            case round =>
              clear hstart hcx
              rename_i wr
              obtain ⟨k, rfl, hk1, hout⟩ := hrel
              by_cases hlk : k < Q.length
              · have hcy := (hg3.below hout.st.below).cell0 k hlk
                obtain ⟨y, hy⟩ : ∃ y, Hid (Q.getD k 0 = y) := ⟨_, rfl⟩
                rw [hy.out] at hcy
                have hxy := hmi.out k hlk
                rw [hy.out] at hxy
                have hzl := hm.add_lt i k
                have hnx : Hid (inMul (addN m) P Q i (outMul (addN m) P Q (prodN m) i) (k + 1) = (inMul (addN m) P Q i (outMul (addN m) P Q (prodN m) i) k).set (addN m i k) ((inMul (addN m) P Q i (outMul (addN m) P Q (prodN m) i) k).getD (addN m i k) 0 + x * y)) := by
                  unfold Hid; rw [inMul, hx.out, hy.out]
                have hbo := hbi.out k (addN m i k) (by omega)
                have hbox := hout.st.box
                go_wp2_with fail
                refine (add_any _ _ _ _ _ _ _ hm (by omega) (by omega) hout.st.grp).mono ?_; rintro e w6 ⟨rfl, hb6⟩; have ho6 := hout.step hb6
                have hco := ho6.out.cell (addN m i k) (by rw [hin.out, hsl.out]; exact hzl)
                have hfo := ho6.out.frozen (addN m i k)
                have hst := ho6.store (addN m i k) ((inMul (addN m) P Q i (outMul (addN m) P Q (prodN m) i) k).getD (addN m i k) 0 + x * y)
                rw [← hnx.out] at hst
                generalize (inMul (addN m) P Q i (outMul (addN m) P Q (prodN m) i) k).getD (addN m i k) 0 = o at *
                generalize addN m i k = z at *
                clear hout hnx ho6 hb6 hbox hcy
                go_wp2
                go_roundw
                case rel => exact ⟨k + 1, by go_num, by omega, hst⟩
                case measure => simp [intOf]; omega
              · have hnx : Hid (inMul (addN m) P Q i (outMul (addN m) P Q (prodN m) i) k = outMul (addN m) P Q (prodN m) (i + 1)) := by unfold Hid; rw [outMul, show k = Q.length from by omega]
                rw [hnx.out] at hout
                go_wp2
                go_roundw
                case rel => exact ⟨i + 1, by go_num, by omega, hout⟩
                case measure => simp [intOf]; omega
          · have hend : Hid (outMul (addN m) P Q (prodN m) i = cvF (cst m) P Q) := by unfold Hid; rw [hr.out, show i = P.length from by omega]
            have hlm : Hid ((cvF (cst m) P Q).length = prodN m) := by unfold Hid; rw [← hend.out, hsl.out]
            have ho := hout.out
            rw [hend.out] at ho
            have hfin : Hid (RetInts w (cvF (cst m) P Q) (.returned (.slice (some ⟨go, 0, none⟩) (prodN m) (prodN m))) wr) := ⟨go, prodN m, by rw [hlm.out], ho⟩
            clear hout ho
            go_wp2
            go_ret
            exact hfin.out
  · have hn : cvOk l P Q = false := by simpa using h
    have hr := hid (cvF_no hn)
    have hn' := hid hn
    clear h hn
    go_wp2
    go_loop [23] (fun i => ∃ k : Nat, i = .int .i64 k ∧ k ≤ V.length ∧ Hid (∀ j, j < k → inB (V.getD j 0) (-10000) 10000 = true)) (fun i => V.length - (intOf i).toNat)
    case atStart => exact ⟨0, rfl, by omega, fun j hj => by omega⟩
    case round =>
      obtain ⟨k, rfl, hk, hall⟩ := hrel
      by_cases hlt : k < V.length
      · have hck := hgv.cell0 k hlt
        by_cases hin : inB (V.getD k 0) (-10000) 10000 = true
        · have hall' : Hid (∀ j, j < k + 1 → inB (V.getD j 0) (-10000) 10000 = true) := fun j hj => by
            by_cases e : j = k
            · rw [e]; exact hin
            · exact hall.out j (by omega)
          generalize V.getD k 0 = x at *
          go_wp2_with fail
          refine (within_any _ _ _ _).mono ?_; rintro e w4 ⟨rfl, rfl⟩; rw [hin]
          go_wp2
          go_round
          case rel => exact ⟨k + 1, by go_num, by omega, hall'⟩
          case measure => simp [intOf]; omega
        · have hin' : inB (V.getD k 0) (-10000) 10000 = false := by simpa using hin
          clear hin
          generalize V.getD k 0 = x at *
          go_wp2_with fail
          refine (within_any _ _ _ _).mono ?_; rintro e w4 ⟨rfl, rfl⟩; rw [hin']
          have hgr1 := Growing.start (w := w) hst3.below hst3.below.size #[] rfl
          go_wp2
          go_ret
          rw [hr.out]
          exact hgr1.ret
      · have hboth : Hid (allIn (-10000) 10000 P = true ∧ allIn (-10000) 10000 Q = true) := by
          have e := allIn_end (fun j hj => hall.out j (by omega)) (P := V)
          rw [hal.out, Bool.and_eq_true] at e; exact e
        by_cases hgp : grp l = true
        · by_cases e1 : P.length = ordN l
          · have e2 : ¬ Q.length = ordN l := fun e2 => by
              have := hn'.out
              simp [cvOk, tabB, hboth.out.1, hboth.out.2, hgp, e1, e2] at this
            have f1 : ((P.length : Int) != ((ordN l : Nat) : Int)) = false := by rw [e1]; simp
            have f2 : ((Q.length : Int) != ((ordN l : Nat) : Int)) = true := by rw [bne_iff_ne]; omega
            clear e1 e2
            go_wp2_with fail
            refine (isGroup_any _ _ _ _ _ hl hst3.grp).mono ?_; rintro e w4 ⟨rfl, hb4⟩; rw [hgp]; have hst4 := hst3.step hb4
            have hgr1 := Growing.start (w := w) hst4.below hst4.below.size #[] rfl
            go_wp2
            go_ret
            rw [hr.out]
            exact hgr1.ret
          · have f1 : ((P.length : Int) != ((ordN l : Nat) : Int)) = true := by rw [bne_iff_ne]; omega
            clear e1
            go_wp2_with fail
            refine (isGroup_any _ _ _ _ _ hl hst3.grp).mono ?_; rintro e w4 ⟨rfl, hb4⟩; rw [hgp]; have hst4 := hst3.step hb4
            have hgr1 := Growing.start (w := w) hst4.below hst4.below.size #[] rfl
            go_wp2
            go_ret
            rw [hr.out]
            exact hgr1.ret
        · have hgp' : grp l = false := by simpa using hgp
          clear hgp
          go_wp2_with fail
          refine (isGroup_any _ _ _ _ _ hl hst3.grp).mono ?_; rintro e w4 ⟨rfl, hb4⟩; rw [hgp']; have hst4 := hst3.step hb4
          have hgr1 := Growing.start (w := w) hst4.below hst4.below.size #[] rfl
          go_wp2
          go_ret
          rw [hr.out]
          exact hgr1.ret
end Go.Proofs.Ytickcopllojchaa
