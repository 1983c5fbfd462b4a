/-
  Contracts: division by a polynomial; the cyclotomic polynomials; whether a coefficient is zero.
-/
import Derived.Test.YtpflnmcecnbilaaCyc
import Derived.Test.YtpflnmcecnbilaaCoef
import Derived.Test.YtpflnmcecnbilaaCnt
namespace Go.Proofs.Ytpflnmcecnbilaa
open Go.RowKit

theorem coefF_ok_len {l : List Int} {a k : Int} (h : coefOk l a k = true) : 1 ≤ (coefF l a k).length ∧ (coefF l a k).length ≤ 24 := by
  have h2 := coefOk_iff h
  obtain ⟨m, A, K, hm, rfl, rfl, rfl, hA, hK⟩ := h2
  rw [coefF_yes h, cst_length, coefN, cntTo_len]
  exact expN_bd hm
def izF (l : List Int) (a k : Int) : Bool := coefOk l a k && zeroB (remN (coefF l a k) (cycT (coefF l a k).length))
theorem izF_no {l : List Int} {a k : Int} (h : coefOk l a k = false) : izF l a k = false := by unfold izF; rw [h]; rfl
theorem izF_yes {l : List Int} {a k : Int} (h : coefOk l a k = true) : izF l a k = zeroB (remN (coefF l a k) (cycT (coefF l a k).length)) := by unfold izF; rw [h]; rfl
/-- the part that vanishes looks at says it all -/
theorem van_yes {p d : List Int} (hd : 1 ≤ d.length) (h1 : d.getD (d.length - 1) 0 = 1) (hl : d.length ≤ p.length + 1) (h : ∀ k, k < min p.length (d.length - 1) → (remN p d).getD k 0 = 0) : zeroB (remN p d) = true := by
  rcases Nat.lt_or_ge p.length d.length with e | e
  · refine zeroB_yes fun k hk => h k ?_
    rw [remN, divR_len] at hk; omega
  · exact zeroB_low hd h1 e fun k hk => h k (by omega)
theorem van_no {p d : List Int} {k : Nat} (hk : k < min p.length (d.length - 1)) (h : (remN p d).getD k 0 ≠ 0) : zeroB (remN p d) = false :=
  zeroB_no (by rw [remN, divR_len]; omega) h
/-- the world of a division: what is left, the quotient -/
structure Div (w : World) (R Q : List Int) (g1 c1 g2 c2 : Nat) (wr : World) : Prop where
  left : Made w R g1 c1 wr
  quo : Made w Q g2 c2 wr
  ne : g1 ≠ g2
section
variable {w wr w1 : World} {R Q : List Int} {g1 c1 g2 c2 : Nat}
theorem Div.step (h : Div w R Q g1 c1 g2 c2 wr) (hb : Below wr.heap.size wr w1) : Div w R Q g1 c1 g2 c2 w1 := ⟨h.left.step hb, h.quo.step hb, h.ne⟩
theorem Div.drewN (h : Div w R Q g1 c1 g2 c2 wr) (n : Nat) : Div w R Q g1 c1 g2 c2 (wr.drewN n) := ⟨h.left.drewN n, h.quo.drewN n, h.ne⟩
theorem Div.drew (h : Div w R Q g1 c1 g2 c2 wr) : Div w R Q g1 c1 g2 c2 wr.drew := ⟨h.left.drew, h.quo.drew, h.ne⟩
theorem Div.setL (h : Div w R Q g1 c1 g2 c2 wr) (j : Nat) (x : Int) : Div w (R.set j x) Q g1 c1 g2 c2 (wr.setCell ⟨g1, j, none⟩ (.int .i64 x)) :=
  ⟨h.left.store j x, h.quo.other h.left.base h.ne j _, h.ne⟩
theorem Div.setQ (h : Div w R Q g1 c1 g2 c2 wr) (j : Nat) (x : Int) : Div w R (Q.set j x) g1 c1 g2 c2 (wr.setCell ⟨g2, j, none⟩ (.int .i64 x)) :=
  ⟨h.left.other h.quo.base (Ne.symm h.ne) j _, h.quo.store j x, h.ne⟩
end
theorem div_c {p d : List Int} {N I X : Nat} (hN : divL p d = N) (hI : I + 1 ≤ N) (hX : X + 1 = I + d.length) : divC p d (N - 1 - I) = (divR p d (N - 1 - I)).getD X 0 := by
  have e : N - 1 - (N - 1 - I) + d.length - 1 = X := by omega
  unfold divC; rw [hN, e]
theorem div_q {p d : List Int} {N I : Nat} (hN : divL p d = N) (hI : I + 1 ≤ N) : divQ p d (N - I) = (divQ p d (N - 1 - I)).set I (divC p d (N - 1 - I)) := by
  have e : N - 1 - (N - 1 - I) = I := by omega
  obtain ⟨j, hj⟩ : ∃ j, N - 1 - I = j := ⟨_, rfl⟩
  have e2 : N - I = j + 1 := by omega
  rw [e2, hj, divQ, hN]
  rw [hj] at e; rw [e]
theorem div_r {p d : List Int} {N I : Nat} (hN : divL p d = N) (hI : I + 1 ≤ N) : divR p d (N - I) = subR d (divC p d (N - 1 - I)) I (divR p d (N - 1 - I)) d.length := by
  have e : N - 1 - (N - 1 - I) = I := by omega
  obtain ⟨j, hj⟩ : ∃ j, N - 1 - I = j := ⟨_, rfl⟩
  have e2 : N - I = j + 1 := by omega
  rw [e2, hj, divR_step, hN]
  rw [hj] at e; rw [e]
theorem div_zero {p d : List Int} (hN : divL p d = 0) : remN p d = p ∧ quoN p d = [] := by
  unfold remN quoN; rw [hN]; exact ⟨rfl, by rw [divQ, hN]; rfl⟩
theorem div_first {p d : List Int} {N : Nat} (hN : divL p d = N) : divR p d 0 = p ∧ divQ p d 0 = List.replicate N 0 := ⟨rfl, by rw [divQ, hN]⟩
theorem div_last {p d : List Int} {N : Nat} (hN : divL p d = N) : divR p d (N - 0) = remN p d ∧ divQ p d (N - 0) = quoN p d := by unfold remN quoN; rw [hN]; exact ⟨rfl, rfl⟩
theorem Made.capAt {w wr : World} {l : List Int} {g cap : Nat} (h : Made w l g cap wr) : l.length ≤ cap := by
  rcases h.own.2 with ⟨e, _⟩ | ⟨g', cap', cur, e, _, _, h1, _⟩
  · cases e
  · simp at e; omega
theorem ret_ss {a b a' b' : Value} (h1 : a = a') (h2 : b = b') : Ending.returned (.tuple #[a, b]) = .returned (.tuple #[a', b']) := by rw [h1, h2]
/-- how many numbers the rest keeps -/
def lowL (p d : List Int) : Nat := min p.length (d.length - 1)
set_option maxRecDepth 4000 in
set_option maxHeartbeats 4000000 in
theorem rest_any (b cap : Nat) (p : List Int) (b2 cap2 : Nat) (d : List Int) (w : World) (hp : p.length ≤ 1048576) (hd : 1 ≤ d.length) (hdp : d.length ≤ p.length + 1) (hg : GrpAt w b 0 p) (hg2 : GrpAt w b2 0 d) :
    Calls Try.prog 185 #[.slice (some ⟨b, 0, none⟩) p.length cap, .slice (some ⟨b2, 0, none⟩) d.length cap2] w fun e w' => ∃ g1 c1 g2 c2, e = .returned (.tuple #[.slice (some ⟨g2, 0, none⟩) (quoN p d).length c2, .slice (some ⟨g1, 0, none⟩) (lowL p d) c1]) ∧ Div w (remN p d) (quoN p d) g1 c1 g2 c2 w' := by
  obtain ⟨i0, hi, hz0, hz1, hz2⟩ := info_parts info_int
  obtain ⟨N, hN⟩ : ∃ N, Hid (divL p d = N) := ⟨_, rfl⟩
  have hN2 : Hid (p.length + 1 = N + d.length) := by unfold Hid; rw [← hN.out]; unfold divL; omega
  have hd5 : d.length ≤ 1048577 := by omega
  go_enter Try.func185, Try.ntmps185
  go_wp2_with fail
  refine (copyInts_any _ _ _ _ (by omega) hg).mono ?_; rintro e w1 ⟨g, gc, rfl, hm⟩
  have hsz1 := hm.below.size
  have e1 : IntKind.i64.wrap ((p.length : Int) - (d.length : Int)) = (p.length : Int) - (d.length : Int) := by rw [IntKind.wrap_i64]; omega
  have e2 : IntKind.i64.wrap ((p.length : Int) - (d.length : Int) + 1) = (N : Int) := by rw [IntKind.wrap_i64]; have := hN2.out; omega
  have hif : (if 0 < N then (N : Int) else 0) = (N : Int) := by split <;> omega
  have hN3 : N ≤ 1048577 := by have := hN2.out; omega
  go_wp2_with (refine wpList_make_full _ rfl _ _ 24 rfl w.heap.size 3 i0 (.int .i64 0) 1 Try.underlying24 hi hz0 hz1 .i64 .i64 _ _ N rfl rfl (by first | rfl | exact hif) (by first | rfl | exact hif) ?c2 ?c3 ?c4 ?_)
  case c2 => rw [hz2]; omega
  case c3 => simp only [maxLen]; omega
  case c4 => exact hsz1
  intro w2 hown hgr
  have hmk := Made.make hm.below hown hgr
  have hne : g ≠ w1.heap.size := Nat.ne_of_lt hm.lt
  have hdv : Div w p (List.replicate N 0) g gc w1.heap.size N w2 := ⟨hm.step ((Below.refl w1.heap.size w1).grown hgr (Nat.le_refl _) (fun k hk => by cases hk)), hmk, hne⟩
  clear hm hsz1 hown hgr hmk hne e1 e2 hif
  generalize w1.heap.size = gq at *
  have e3 : IntKind.i64.wrap ((N : Int) - 1) = (N : Int) - 1 := by rw [IntKind.wrap_i64]; omega
  have hq0 : Hid (∀ j, (divQ p d j).length = N) := fun j => by rw [divQ_len, hN.out]
  have hr0 : Hid (∀ j, (divR p d j).length = p.length) := divR_len p d
  have hstart : Hid (N = 0 → Div w (remN p d) (quoN p d) g gc gq N w2) := fun h0 => by
    obtain ⟨a1, a2⟩ := div_zero (hN.out.trans h0)
    subst h0; rw [a1, a2]; exact hdv
  have hstart2 : Hid (1 ≤ N → Div w (divR p d 0) (divQ p d 0) g gc gq N w2) := fun _ => by
    rw [(div_first hN.out).1, (div_first hN.out).2]; exact hdv
  clear hdv
  go_wp2_with fail
  go_loopw [8] (fun i wr => (i = .int .i64 (-1) ∧ Div w (remN p d) (quoN p d) g gc gq N wr) ∨ (∃ I : Nat, i = .int .i64 (I : Int) ∧ I + 1 ≤ N ∧ Div w (divR p d (N - 1 - I)) (divQ p d (N - 1 - I)) g gc gq N wr)) (fun i _ => (intOf i + 1).toNat)
  case atStart =>
    rcases Nat.eq_zero_or_pos N with h0 | h0
    · exact .inl ⟨val_i (by have := hN2.out; omega), hstart.out h0⟩
    · exact .inr ⟨N - 1, val_i (by have := hN2.out; omega), by omega, by rw [show N - 1 - (N - 1) = 0 from by omega]; exact hstart2.out h0⟩
  case round =>
    clear hstart hstart2 e3
    rename_i wr
    rcases hrel with ⟨rfl, hdv⟩ | ⟨I, rfl, hI, hdv⟩
    · have hcap := hdv.left.capAt
      rw [remN, divR_len] at hcap
      obtain ⟨M, hM⟩ : ∃ M, Hid (lowL p d = M) := ⟨_, rfl⟩
      have eM : Hid ((if (d.length : Int) - 1 < (p.length : Int) then (d.length : Int) - 1 else (p.length : Int)).toNat = M) := by unfold Hid; rw [← hM.out]; unfold lowL; split <;> omega
      have eQ : Hid ((quoN p d).length = N) := hq0.out _
      have e6 : IntKind.i64.wrap ((d.length : Int) - 1) = (d.length : Int) - 1 := by rw [IntKind.wrap_i64]; omega
      have hfin : Hid (∀ n, Div w (remN p d) (quoN p d) g gc gq N (wr.drewN n)) := fun n => hdv.drewN n
      clear hdv
      go_wp2_with fail
      go_quiet (fail)
      rw [eM.out]
      clear eM e6
      go_wp2_with fail
      all_goals go_ret2
      all_goals exact ⟨g, gc, gq, N, ret_ss (show Value.slice (some ⟨gq, 0, none⟩) N N = .slice (some ⟨gq, 0, none⟩) (quoN p d).length N from by rw [eQ.out]) (show Value.slice (some ⟨g, 0, none⟩) M gc = .slice (some ⟨g, 0, none⟩) (lowL p d) gc from by rw [hM.out]), hfin.out _⟩
    · obtain ⟨X, hX⟩ : ∃ X : Nat, X + 1 = I + d.length := ⟨I + d.length - 1, by omega⟩
      have hXp : X < p.length := by have := hN2.out; omega
      have e1 : IntKind.i64.wrap ((I : Int) + (d.length : Int)) = (I : Int) + (d.length : Int) := by rw [IntKind.wrap_i64]; have := hN2.out; omega
      have e2 : IntKind.i64.wrap ((I : Int) + (d.length : Int) - 1) = (X : Int) := by rw [IntKind.wrap_i64]; have := hN2.out; omega
      have hXi : (X : Int) < (p.length : Int) := by omega
      have hcx := hdv.left.cell X (by rw [hr0.out]; exact hXp)
      have hIi : (I : Int) < (N : Int) := by omega
      have hcq := hdv.quo.cell I (by rw [hq0.out]; omega)
      have hfq := hdv.quo.frozen I
      have hqn := hid (div_q hN.out hI)
      have hc := hid (div_c hN.out hI hX)
      have hrn := hid (div_r hN.out hI)
      rw [← hc.out] at hcx
      generalize divC p d (N - 1 - I) = c at *
      have hdq := hdv.setQ I c
      rw [← hqn.out] at hdq
      have hRl := hid (hr0.out (N - 1 - I))
      generalize divR p d (N - 1 - I) = R at *
      have hlast : Hid (I = 0 → divR p d (N - I) = remN p d ∧ divQ p d (N - I) = quoN p d) := fun h0 => by rw [h0]; exact div_last hN.out
      have hQl := hid (hq0.out (N - I))
      generalize hQe : divQ p d (N - I) = Q at *
      have hQe2 := hid hQe
      generalize hRe : divR p d (N - I) = R2 at *
      have hRe2 := hid hRe
      have hdq0 : Hid (Div w (subR d c I R 0) Q g gc gq N (wr.setCell ⟨gq, I, none⟩ (.int .i64 c))) := hdq
      clear hdv hX hc hRe hdq hqn hQe
      go_wp2_with fail
      generalize wr.setCell ⟨gq, I, none⟩ (.int .i64 c) = ws at *
      clear hcq hfq
      clear hcx
      go_loopw [43] (fun i wr => ∃ k : Nat, i = .int .i64 (k : Int) ∧ k ≤ d.length ∧ Div w (subR d c I R k) Q g gc gq N wr) (fun i _ => d.length - (intOf i).toNat)
      case atStart => exact ⟨0, rfl, by omega, hdq0.out⟩
      case round =>
        clear hdq0
        obtain ⟨k, rfl, hk, hdk⟩ := hrel
        by_cases hlk : k < d.length
        · have hki : (k : Int) < (d.length : Int) := by omega
          have hcy := (hg2.below hdk.left.below).cell0 k hlk
          obtain ⟨y, hy⟩ : ∃ y, Hid (d.getD k 0 = y) := ⟨_, rfl⟩
          rw [hy.out] at hcy
          have hlen2 := hid (subR_len d c I R k)
          obtain ⟨z, hz⟩ : ∃ z : Nat, Hid (z = I + k) := ⟨_, rfl⟩
          have hzp : z < p.length := by have := hN2.out; have := hz.out; omega
          have e4 : IntKind.i64.wrap ((I : Int) + (k : Int)) = (z : Int) := by rw [IntKind.wrap_i64]; have := hz.out; omega
          have hzi : (z : Int) < (p.length : Int) := by omega
          have hcz := hdk.left.cell z (by rw [hlen2.out, hRl.out]; exact hzp)
          have hfz := hdk.left.frozen z
          obtain ⟨x, hx⟩ : ∃ x, Hid ((subR d c I R k).getD z 0 = x) := ⟨_, rfl⟩
          rw [hx.out] at hcz
          obtain ⟨m1, hw1, hm1⟩ : ∃ v, IntKind.i64.wrap (c * y) = v ∧ Hid (wrap64 (c * y) = v) := ⟨wrap64 (c * y), IntWalk.i64_left _, rfl⟩
          obtain ⟨m2, hw2, hm2⟩ : ∃ v, IntKind.i64.wrap (x - m1) = v ∧ Hid (wrap64 (x - m1) = v) := ⟨wrap64 (x - m1), IntWalk.i64_left _, rfl⟩
          have hst := hid (hdk.setL z m2)
          have hnx : Hid ((subR d c I R k).set z m2 = subR d c I R (k + 1)) := by
            unfold Hid; rw [subR, ← hz.out, hx.out, hy.out, hm1.out, hm2.out]
          rw [hnx.out] at hst
          clear hdk hnx hlen2
          go_wp2_with fail
          go_roundw
          case rel => exact ⟨k + 1, by go_num, by omega, hst.out⟩
          case measure => simp [intOf]; omega
        · have e : k = d.length := by omega
          subst e
          rw [← hrn.out] at hdk
          have hfin := hid hdk
          clear hdk
          have e5 : IntKind.i64.wrap ((I : Int) - 1) = (I : Int) - 1 := by rw [IntKind.wrap_i64]; omega
          go_wp2_with fail
          go_roundw
          case rel =>
            rcases Nat.eq_zero_or_pos I with h0 | h0
            · obtain ⟨a1, a2⟩ := hlast.out h0
              refine .inl ⟨val_i (by omega), ?_⟩
              rw [← a1, ← a2]; exact hfin.out
            · refine .inr ⟨I - 1, val_i (by omega), by omega, ?_⟩
              rw [show N - 1 - (I - 1) = N - I from by omega, hQe2.out, hRe2.out]; exact hfin.out
          case measure => (simp [intOf]; try omega)
set_option maxRecDepth 4000 in
set_option maxHeartbeats 4000000 in
theorem l7Quotient_any (b cap : Nat) (p : List Int) (b2 cap2 : Nat) (d : List Int) (w : World) (hp : p.length ≤ 1048576) (hd : 1 ≤ d.length) (hdp : d.length ≤ p.length + 1) (hg : GrpAt w b 0 p) (hg2 : GrpAt w b2 0 d) :
    Calls Try.prog 184 #[.slice (some ⟨b, 0, none⟩) p.length cap, .slice (some ⟨b2, 0, none⟩) d.length cap2] w (RetInts w (quoN p d)) := by
  obtain ⟨i0, hi, hz0, hz1, hz2⟩ := info_parts info_int
  obtain ⟨N, hN⟩ : ∃ N, Hid (divL p d = N) := ⟨_, rfl⟩
  have hN2 : Hid (p.length + 1 = N + d.length) := by unfold Hid; rw [← hN.out]; unfold divL; omega
  have hd5 : d.length ≤ 1048577 := by omega
  have hgr := Growing.start' (w := w) #[] rfl
  have hg1 := hg.alloc (.cells #[] 3)
  have hown := hgr.own
  go_enter Try.func184, Try.ntmps184
  go_wp2_with (at_builtin; refine wpList_append_own _ rfl _ _ 24 rfl w.heap.size 3 i0 (.int .i64 0) 1 8 Try.underlying24 hi hz0 hz1 hz2 rfl (by decide) _ _ _ rfl hown ⟨b, 0, none⟩ p.length cap (p.map (Value.int .i64)) rfl ?c0 ?c1 ?c2 ?c3 ?c4 ?c5 ?_)
  case c0 => simp
  case c1 => exact news_of hg1
  case c2 => exact one_ints p
  case c3 => simp only [maxLen]; simp; omega
  case c4 => simp; omega
  case c5 => simp
  intro v' w1 hown' hgrow hnil
  have hp1 := (hgr.app (l2 := p) (by simpa using hown') hgrow hnil).form
  rw [List.nil_append] at hp1
  obtain ⟨g, gc, rfl, hm⟩ := hp1
  clear hown hown' hgrow hnil hgr hg1
  have hsz1 := hm.below.size
  have e1 : IntKind.i64.wrap ((p.length : Int) - (d.length : Int)) = (p.length : Int) - (d.length : Int) := by rw [IntKind.wrap_i64]; omega
  have e2 : IntKind.i64.wrap ((p.length : Int) - (d.length : Int) + 1) = (N : Int) := by rw [IntKind.wrap_i64]; have := hN2.out; omega
  have hif : (if 0 < N then (N : Int) else 0) = (N : Int) := by split <;> omega
  have hN3 : N ≤ 1048577 := by have := hN2.out; omega
  go_wp2_with (refine wpList_make_full _ rfl _ _ 24 rfl w.heap.size 3 i0 (.int .i64 0) 1 Try.underlying24 hi hz0 hz1 .i64 .i64 _ _ N rfl rfl (by first | rfl | exact hif) (by first | rfl | exact hif) ?c2 ?c3 ?c4 ?_)
  case c2 => rw [hz2]; omega
  case c3 => simp only [maxLen]; omega
  case c4 => exact hsz1
  intro w2 hown hgr
  have hmk := Made.make hm.below hown hgr
  have hne : g ≠ w1.heap.size := Nat.ne_of_lt hm.lt
  have hdv : Div w p (List.replicate N 0) g gc w1.heap.size N w2 := ⟨hm.step ((Below.refl w1.heap.size w1).grown hgr (Nat.le_refl _) (fun k hk => by cases hk)), hmk, hne⟩
  clear hm hsz1 hown hgr hmk hne e1 e2 hif
  generalize w1.heap.size = gq at *
  have e3 : IntKind.i64.wrap ((N : Int) - 1) = (N : Int) - 1 := by rw [IntKind.wrap_i64]; omega
  have hq0 : Hid (∀ j, (divQ p d j).length = N) := fun j => by rw [divQ_len, hN.out]
  have hr0 : Hid (∀ j, (divR p d j).length = p.length) := divR_len p d
  have hstart : Hid (N = 0 → Div w (remN p d) (quoN p d) g gc gq N w2) := fun h0 => by
    obtain ⟨a1, a2⟩ := div_zero (hN.out.trans h0)
    subst h0; rw [a1, a2]; exact hdv
  have hstart2 : Hid (1 ≤ N → Div w (divR p d 0) (divQ p d 0) g gc gq N w2) := fun _ => by
    rw [(div_first hN.out).1, (div_first hN.out).2]; exact hdv
  clear hdv
  go_wp2_with fail
  go_loopw [7] (fun i wr => (i = .int .i64 (-1) ∧ Div w (remN p d) (quoN p d) g gc gq N wr) ∨ (∃ I : Nat, i = .int .i64 (I : Int) ∧ I + 1 ≤ N ∧ Div w (divR p d (N - 1 - I)) (divQ p d (N - 1 - I)) g gc gq N wr)) (fun i _ => (intOf i + 1).toNat)
  case atStart =>
    rcases Nat.eq_zero_or_pos N with h0 | h0
    · exact .inl ⟨val_i (by have := hN2.out; omega), hstart.out h0⟩
    · exact .inr ⟨N - 1, val_i (by have := hN2.out; omega), by omega, by rw [show N - 1 - (N - 1) = 0 from by omega]; exact hstart2.out h0⟩
  case round =>
    clear hstart hstart2 e3
    rename_i wr
    rcases hrel with ⟨rfl, hdv⟩ | ⟨I, rfl, hI, hdv⟩
    · have eQ : Hid ((quoN p d).length = N) := hq0.out _
      go_wp2_with fail
      go_ret
      exact ⟨gq, N, by rw [eQ.out]; rfl, hdv.quo⟩
    · obtain ⟨X, hX⟩ : ∃ X : Nat, X + 1 = I + d.length := ⟨I + d.length - 1, by omega⟩
      have hXp : X < p.length := by have := hN2.out; omega
      have e1 : IntKind.i64.wrap ((I : Int) + (d.length : Int)) = (I : Int) + (d.length : Int) := by rw [IntKind.wrap_i64]; have := hN2.out; omega
      have e2 : IntKind.i64.wrap ((I : Int) + (d.length : Int) - 1) = (X : Int) := by rw [IntKind.wrap_i64]; have := hN2.out; omega
      have hXi : (X : Int) < (p.length : Int) := by omega
      have hcx := hdv.left.cell X (by rw [hr0.out]; exact hXp)
      have hIi : (I : Int) < (N : Int) := by omega
      have hcq := hdv.quo.cell I (by rw [hq0.out]; omega)
      have hfq := hdv.quo.frozen I
      have hqn := hid (div_q hN.out hI)
      have hc := hid (div_c hN.out hI hX)
      have hrn := hid (div_r hN.out hI)
      rw [← hc.out] at hcx
      generalize divC p d (N - 1 - I) = c at *
      have hdq := hdv.setQ I c
      rw [← hqn.out] at hdq
      have hRl := hid (hr0.out (N - 1 - I))
      generalize divR p d (N - 1 - I) = R at *
      have hlast : Hid (I = 0 → divR p d (N - I) = remN p d ∧ divQ p d (N - I) = quoN p d) := fun h0 => by rw [h0]; exact div_last hN.out
      have hQl := hid (hq0.out (N - I))
      generalize hQe : divQ p d (N - I) = Q at *
      have hQe2 := hid hQe
      generalize hRe : divR p d (N - I) = R2 at *
      have hRe2 := hid hRe
      have hdq0 : Hid (Div w (subR d c I R 0) Q g gc gq N (wr.setCell ⟨gq, I, none⟩ (.int .i64 c))) := hdq
      clear hdv hX hc hRe hdq hqn hQe
      go_wp2_with fail
      generalize wr.setCell ⟨gq, I, none⟩ (.int .i64 c) = ws at *
      clear hcq hfq
      clear hcx
      go_loopw [9] (fun i wr => ∃ k : Nat, i = .int .i64 (k : Int) ∧ k ≤ d.length ∧ Div w (subR d c I R k) Q g gc gq N wr) (fun i _ => d.length - (intOf i).toNat)
      case atStart => exact ⟨0, rfl, by omega, hdq0.out⟩
      case round =>
        clear hdq0
        obtain ⟨k, rfl, hk, hdk⟩ := hrel
        by_cases hlk : k < d.length
        · have hki : (k : Int) < (d.length : Int) := by omega
          have hcy := (hg2.below hdk.left.below).drew.cell0 k hlk
          obtain ⟨y, hy⟩ : ∃ y, Hid (d.getD k 0 = y) := ⟨_, rfl⟩
          rw [hy.out] at hcy
          have hlen2 := hid (subR_len d c I R k)
          obtain ⟨z, hz⟩ : ∃ z : Nat, Hid (z = I + k) := ⟨_, rfl⟩
          have hzp : z < p.length := by have := hN2.out; have := hz.out; omega
          have e4 : IntKind.i64.wrap ((I : Int) + (k : Int)) = (z : Int) := by rw [IntKind.wrap_i64]; have := hz.out; omega
          have hzi : (z : Int) < (p.length : Int) := by omega
          have hcz := hdk.left.drew.cell z (by rw [hlen2.out, hRl.out]; exact hzp)
          have hfz := hdk.left.drew.frozen z
          obtain ⟨x, hx⟩ : ∃ x, Hid ((subR d c I R k).getD z 0 = x) := ⟨_, rfl⟩
          rw [hx.out] at hcz
          obtain ⟨m1, hw1, hm1⟩ : ∃ v, IntKind.i64.wrap (c * y) = v ∧ Hid (wrap64 (c * y) = v) := ⟨wrap64 (c * y), IntWalk.i64_left _, rfl⟩
          obtain ⟨m2, hw2, hm2⟩ : ∃ v, IntKind.i64.wrap (x - m1) = v ∧ Hid (wrap64 (x - m1) = v) := ⟨wrap64 (x - m1), IntWalk.i64_left _, rfl⟩
          have hst := hid (hdk.drew.setL z m2)
          have hnx : Hid ((subR d c I R k).set z m2 = subR d c I R (k + 1)) := by
            unfold Hid; rw [subR, ← hz.out, hx.out, hy.out, hm1.out, hm2.out]
          rw [hnx.out] at hst
          clear hdk hnx hlen2
          have hcy2 := (hg2.below hst.out.left.below).cell0 k hlk
          rw [hy.out] at hcy2
          go_wp2_with fail
          refine wp_region_held_drew (S := fun w' => w'.cell? ⟨b2, k, none⟩ = some (.int .i64 y)) (by kernel_rfl) hcy (fun hHeld => ?_)
          (refine wpAnyH_take (i := 0) (oi := ?oi84) (v := ?v84) ?hi84 (by kernel_rfl) (by kernel_rfl) (by kernel_rfl) ?hq84 ?hy84 (by assumption) ?hr84; (case hi84 => ((simp only [List.getElem?_toArray, List.getElem?_cons_zero]); exact rfl)); (case hq84 => exact fun _ _ _ h => h); (case hy84 => (refine Or.inl ⟨by rfl, ?_⟩; (intro w hSw); (try dsimp only at hSw); go_simp; (try with_reducible rfl))); (try simp only [Act.put, List.setIfInBounds_toArray, List.set_cons_zero, List.set_cons_succ])); (refine wpAnyH_take (i := 1) (oi := ?oi85) (v := ?v85) ?hi85 (by kernel_rfl) (by kernel_rfl) (by kernel_rfl) ?hq85 ?hy85 (by assumption) ?hr85; (case hi85 => ((simp only [List.getElem?_toArray, List.getElem?_cons_zero, List.getElem?_cons_succ]); exact rfl)); (case hq85 => exact fun _ _ _ h => h); (case hy85 => (refine Or.inl ⟨by rfl, ?_⟩; (intro w hSw); (try dsimp only at hSw); go_simp; (try with_reducible rfl))); (try simp only [Act.put, List.setIfInBounds_toArray, List.set_cons_zero, List.set_cons_succ])); (refine wpAnyH_take (i := 2) (oi := ?oi86) (v := ?v86) ?hi86 (by kernel_rfl) (by kernel_rfl) (by kernel_rfl) ?hq86 ?hy86 (by assumption) ?hr86; (case hi86 => ((simp only [List.getElem?_toArray, List.getElem?_cons_zero, List.getElem?_cons_succ]); exact rfl)); (case hq86 => exact fun _ _ _ h => h); (case hy86 => (refine Or.inl ⟨by rfl, ?_⟩; (intro w hSw); (try dsimp only at hSw); go_simp; (try with_reducible rfl))); (try simp only [Act.put, List.setIfInBounds_toArray, List.set_cons_zero, List.set_cons_succ])); (refine wpAnyH_take (i := 3) (oi := ?oi87) (v := ?v87) ?hi87 (by kernel_rfl) (by kernel_rfl) (by kernel_rfl) ?hq87 ?hy87 (by assumption) ?hr87; (case hi87 => ((simp only [List.getElem?_toArray, List.getElem?_cons_zero, List.getElem?_cons_succ]); exact rfl)); (case hq87 => exact fun _ _ _ h => h); (case hy87 => (refine Or.inl ⟨by rfl, ?_⟩; (intro w hSw); (try dsimp only at hSw); go_simp; (try with_reducible rfl))); (try simp only [Act.put, List.setIfInBounds_toArray, List.set_cons_zero, List.set_cons_succ])); (refine wpAnyH_take (i := 4) (oi := ?oi88) (v := ?v88) ?hi88 (by kernel_rfl) (by kernel_rfl) (by kernel_rfl) ?hq88 ?hy88 (by assumption) ?hr88; (case hi88 => ((simp only [List.getElem?_toArray, List.getElem?_cons_zero, List.getElem?_cons_succ]); exact rfl)); (case hq88 => exact fun _ _ _ h => h); (case hy88 => (refine Or.inl ⟨by rfl, ?_⟩; (intro w hSw); (try dsimp only at hSw); go_simp; (try with_reducible rfl))); (try simp only [Act.put, List.setIfInBounds_toArray, List.set_cons_zero, List.set_cons_succ])); (refine wpAnyH_take (i := 5) (oi := ?oi89) (v := ?v89) ?hi89 (by kernel_rfl) (by kernel_rfl) (by kernel_rfl) ?hq89 ?hy89 (by assumption) ?hr89; (case hi89 => ((simp only [List.getElem?_toArray, List.getElem?_cons_zero, List.getElem?_cons_succ]); exact rfl)); (case hq89 => exact fun _ _ _ h => h); (case hy89 => (refine Or.inl ⟨by rfl, ?_⟩; (intro w hSw); (try dsimp only at hSw); go_simp; (try with_reducible rfl))); (try simp only [Act.put, List.setIfInBounds_toArray, List.set_cons_zero, List.set_cons_succ])); (refine wpAnyH_take (i := 6) (oi := ?oi90) (v := ?v90) ?hi90 (by kernel_rfl) (by kernel_rfl) (by kernel_rfl) ?hq90 ?hy90 (by assumption) ?hr90; (case hi90 => ((simp only [List.getElem?_toArray, List.getElem?_cons_zero, List.getElem?_cons_succ]); exact rfl)); (case hq90 => exact fun _ _ _ h => h); (case hy90 => (refine Or.inl ⟨by rfl, ?_⟩; (intro w hSw); (try dsimp only at hSw); go_simp; (try with_reducible rfl))); (try simp only [Act.put, List.setIfInBounds_toArray, List.set_cons_zero, List.set_cons_succ])); (refine wpAnyH_take (i := 7) (oi := ?oi91) (v := ?v91) ?hi91 (by kernel_rfl) (by kernel_rfl) (by kernel_rfl) ?hq91 ?hy91 (by assumption) ?hr91; (case hi91 => ((simp only [List.getElem?_toArray, List.getElem?_cons_zero, List.getElem?_cons_succ]); exact rfl)); (case hq91 => exact fun _ _ _ h => h); (case hy91 => (refine Or.inl ⟨by rfl, ?_⟩; (intro w hSw); (try dsimp only at hSw); go_simp; (try with_reducible rfl))); (try simp only [Act.put, List.setIfInBounds_toArray, List.set_cons_zero, List.set_cons_succ])); (refine wpAnyH_take (i := 8) (oi := ?oi92) (v := ?v92) ?hi92 (by kernel_rfl) (by kernel_rfl) (by kernel_rfl) ?hq92 ?hy92 (by assumption) ?hr92; (case hi92 => ((simp only [List.getElem?_toArray, List.getElem?_cons_zero, List.getElem?_cons_succ]); exact rfl)); (case hq92 => exact fun _ _ _ h => h); (case hy92 => (refine Or.inl ⟨by rfl, ?_⟩; (intro w hSw); (try dsimp only at hSw); go_simp; (try with_reducible rfl))); (try simp only [Act.put, List.setIfInBounds_toArray, List.set_cons_zero, List.set_cons_succ])); (refine wpAnyH_take (i := 10) (oi := ?oi93) (v := ?v93) ?hi93 (by kernel_rfl) (by kernel_rfl) (by kernel_rfl) ?hq93 ?hy93 (by assumption) ?hr93; (case hi93 => ((simp only [List.getElem?_toArray, List.getElem?_cons_zero, List.getElem?_cons_succ]); exact rfl)); (case hq93 => exact fun _ _ _ h => h); (case hy93 => (refine Or.inl ⟨by rfl, ?_⟩; (intro w hSw); (try dsimp only at hSw); go_simp; (try with_reducible rfl))); (try simp only [Act.put, List.setIfInBounds_toArray, List.set_cons_zero, List.set_cons_succ])); (refine wpAnyH_take (i := 11) (oi := ?oi94) (v := ?v94) ?hi94 (by kernel_rfl) (by kernel_rfl) (by kernel_rfl) ?hq94 ?hy94 (by assumption) ?hr94; (case hi94 => ((simp only [List.getElem?_toArray, List.getElem?_cons_zero, List.getElem?_cons_succ]); exact rfl)); (case hq94 => exact fun _ _ _ h => h); (case hy94 => (refine Or.inl ⟨by rfl, ?_⟩; (intro w hSw); (try dsimp only at hSw); go_simp; (try with_reducible rfl))); (try simp only [Act.put, List.setIfInBounds_toArray, List.set_cons_zero, List.set_cons_succ])); (refine wpAnyH_take (i := 12) (oi := ?oi95) (v := ?v95) ?hi95 (by kernel_rfl) (by kernel_rfl) (by kernel_rfl) ?hq95 ?hy95 (by assumption) ?hr95; (case hi95 => ((simp only [List.getElem?_toArray, List.getElem?_cons_zero, List.getElem?_cons_succ]); exact rfl)); (case hq95 => exact fun _ _ _ h => h); (case hy95 => (refine Or.inl ⟨by rfl, ?_⟩; (intro w hSw); (try dsimp only at hSw); go_simp; (try with_reducible rfl))); (try simp only [Act.put, List.setIfInBounds_toArray, List.set_cons_zero, List.set_cons_succ])); (refine wpAnyH_take (i := 13) (oi := ?oi96) (v := ?v96) ?hi96 (by kernel_rfl) (by kernel_rfl) (by kernel_rfl) ?hq96 ?hy96 (by assumption) ?hr96; (case hi96 => ((simp only [List.getElem?_toArray, List.getElem?_cons_zero, List.getElem?_cons_succ]); exact rfl)); (case hq96 => exact fun _ _ _ h => h); (case hy96 => (refine Or.inl ⟨by rfl, ?_⟩; (intro w hSw); (try dsimp only at hSw); go_simp; (try with_reducible rfl))); (try simp only [Act.put, List.setIfInBounds_toArray, List.set_cons_zero, List.set_cons_succ])); (refine wpAnyH_take (i := 14) (oi := ?oi97) (v := ?v97) ?hi97 (by kernel_rfl) (by kernel_rfl) (by kernel_rfl) ?hq97 ?hy97 (by assumption) ?hr97; (case hi97 => ((simp only [List.getElem?_toArray, List.getElem?_cons_zero, List.getElem?_cons_succ]); exact rfl)); (case hq97 => exact fun _ _ _ h => h); (case hy97 => (refine Or.inl ⟨by rfl, ?_⟩; (intro w hSw); (try dsimp only at hSw); go_simp; (try with_reducible rfl))); (try simp only [Act.put, List.setIfInBounds_toArray, List.set_cons_zero, List.set_cons_succ])); (refine wpAnyH_take (i := 15) (oi := ?oi98) (v := ?v98) ?hi98 (by kernel_rfl) (by kernel_rfl) (by kernel_rfl) ?hq98 ?hy98 (by assumption) ?hr98; (case hi98 => ((simp only [List.getElem?_toArray, List.getElem?_cons_zero, List.getElem?_cons_succ]); exact rfl)); (case hq98 => exact fun _ _ _ h => h); (case hy98 => (refine Or.inl ⟨by rfl, ?_⟩; (intro w hSw); (try dsimp only at hSw); go_simp; (try with_reducible rfl))); (try simp only [Act.put, List.setIfInBounds_toArray, List.set_cons_zero, List.set_cons_succ]))
          refine wpAnyH_ready (rs := [9]) (by kernel_rfl) (by simp) ?_; refine AllReadyH.cons rfl (fun K hK => ?_) AllReadyH.nil; go_simp
          refine hK.out _ _ ?ks (fun hHeld => ?_); (case ks => (exact hcy)); clear hK K; (try simp only [Act.put, List.setIfInBounds_toArray, List.set_cons_zero, List.set_cons_succ])
          (refine wpAnyH_take (i := 16) (oi := ?oi99) (v := ?v99) ?hi99 (by kernel_rfl) (by kernel_rfl) (by kernel_rfl) ?hq99 ?hy99 (by assumption) ?hr99; (case hi99 => ((simp only [List.getElem?_toArray, List.getElem?_cons_zero, List.getElem?_cons_succ]); exact rfl)); (case hq99 => exact fun _ _ _ h => h); (case hy99 => (refine Or.inl ⟨by rfl, ?_⟩; (intro w hSw); (try dsimp only at hSw); go_simp; (try with_reducible rfl))); (try simp only [Act.put, List.setIfInBounds_toArray, List.set_cons_zero, List.set_cons_succ])); (refine wpAnyH_take (i := 17) (oi := ?oi100) (v := ?v100) ?hi100 (by kernel_rfl) (by kernel_rfl) (by kernel_rfl) ?hq100 ?hy100 (by assumption) ?hr100; (case hi100 => ((simp only [List.getElem?_toArray, List.getElem?_cons_zero, List.getElem?_cons_succ]); exact rfl)); (case hq100 => exact fun _ _ _ h => h); (case hy100 => (refine Or.inl ⟨by rfl, ?_⟩; (intro w hSw); (try dsimp only at hSw); go_simp; (try with_reducible rfl))); (try simp only [Act.put, List.setIfInBounds_toArray, List.set_cons_zero, List.set_cons_succ]))
          refine wpAnyH_ready (rs := [18]) (by kernel_rfl) (by simp) ?_; refine AllReadyH.cons rfl (fun K hK => ?_) AllReadyH.nil; go_simp
          refine hK.out _ _ ?ks (fun hHeld => ?_); (case ks => exact hcy2); clear hK K
          refine wpAnyH_done (by kernel_rfl) ?_ _
          go_wp2_with fail
          go_roundw
          case rel => exact ⟨k + 1, by go_num, by omega, hst.out⟩
          case measure => simp [intOf]; omega
        · have e : k = d.length := by omega
          subst e
          rw [← hrn.out] at hdk
          have hfin := hid hdk
          clear hdk
          have e5 : IntKind.i64.wrap ((I : Int) - 1) = (I : Int) - 1 := by rw [IntKind.wrap_i64]; omega
          go_wp2_with fail
          go_roundw
          case rel =>
            rcases Nat.eq_zero_or_pos I with h0 | h0
            · obtain ⟨a1, a2⟩ := hlast.out h0
              refine .inl ⟨val_i (by omega), ?_⟩
              rw [← a1, ← a2]; exact hfin.out
            · refine .inr ⟨I - 1, val_i (by omega), by omega, ?_⟩
              rw [show N - 1 - (I - 1) = N - I from by omega, hQe2.out, hRe2.out]; exact hfin.out
          case measure => (simp [intOf]; try omega)
set_option maxRecDepth 4000 in
set_option maxHeartbeats 4000000 in
theorem l7Rest_any (b cap : Nat) (p : List Int) (b2 cap2 : Nat) (d : List Int) (w : World) (hp : p.length ≤ 1048576) (hd : 1 ≤ d.length) (hdp : d.length ≤ p.length + 1) (hg : GrpAt w b 0 p) (hg2 : GrpAt w b2 0 d) :
    Calls Try.prog 153 #[.slice (some ⟨b, 0, none⟩) p.length cap, .slice (some ⟨b2, 0, none⟩) d.length cap2] w (RetInts w (remN p d)) := by
  obtain ⟨i0, hi, hz0, hz1, hz2⟩ := info_parts info_int
  obtain ⟨N, hN⟩ : ∃ N, Hid (divL p d = N) := ⟨_, rfl⟩
  have hN2 : Hid (p.length + 1 = N + d.length) := by unfold Hid; rw [← hN.out]; unfold divL; omega
  have hd5 : d.length ≤ 1048577 := by omega
  have hgr := Growing.start' (w := w) #[] rfl
  have hg1 := hg.alloc (.cells #[] 3)
  have hown := hgr.own
  go_enter Try.func153, Try.ntmps153
  go_wp2_with (at_builtin; refine wpList_append_own _ rfl _ _ 24 rfl w.heap.size 3 i0 (.int .i64 0) 1 8 Try.underlying24 hi hz0 hz1 hz2 rfl (by decide) _ _ _ rfl hown ⟨b, 0, none⟩ p.length cap (p.map (Value.int .i64)) rfl ?c0 ?c1 ?c2 ?c3 ?c4 ?c5 ?_)
  case c0 => simp
  case c1 => exact news_of hg1
  case c2 => exact one_ints p
  case c3 => simp only [maxLen]; simp; omega
  case c4 => simp; omega
  case c5 => simp
  intro v' w1 hown' hgrow hnil
  have hp1 := (hgr.app (l2 := p) (by simpa using hown') hgrow hnil).form
  rw [List.nil_append] at hp1
  obtain ⟨g, gc, rfl, hm⟩ := hp1
  clear hown hown' hgrow hnil hgr hg1
  have hsz1 := hm.below.size
  have e1 : IntKind.i64.wrap ((p.length : Int) - (d.length : Int)) = (p.length : Int) - (d.length : Int) := by rw [IntKind.wrap_i64]; omega
  have hN3 : N ≤ 1048577 := by have := hN2.out; omega
  have hdv := hm
  clear hm hsz1
  have hr0 : Hid (∀ j, (divR p d j).length = p.length) := divR_len p d
  have hstart : Hid (N = 0 → Made w (remN p d) g gc w1) := fun h0 => by
    obtain ⟨a1, a2⟩ := div_zero (hN.out.trans h0)
    rw [a1]; exact hdv
  have hstart2 : Hid (1 ≤ N → Made w (divR p d 0) g gc w1) := fun _ => by
    rw [(div_first hN.out).1]; exact hdv
  clear hdv
  go_wp2_with fail
  go_loopw [6] (fun i wr => (i = .int .i64 (-1) ∧ Made w (remN p d) g gc wr) ∨ (∃ I : Nat, i = .int .i64 (I : Int) ∧ I + 1 ≤ N ∧ Made w (divR p d (N - 1 - I)) g gc wr)) (fun i _ => (intOf i + 1).toNat)
  case atStart =>
    rcases Nat.eq_zero_or_pos N with h0 | h0
    · exact .inl ⟨val_i (by have := hN2.out; omega), hstart.out h0⟩
    · exact .inr ⟨N - 1, val_i (by have := hN2.out; omega), by omega, by rw [show N - 1 - (N - 1) = 0 from by omega]; exact hstart2.out h0⟩
  case round =>
    clear hstart hstart2 e1
    rename_i wr
    rcases hrel with ⟨rfl, hdv⟩ | ⟨I, rfl, hI, hdv⟩
    · have eQ : Hid ((remN p d).length = p.length) := hr0.out _
      go_wp2_with fail
      go_ret
      exact ⟨g, gc, by rw [eQ.out]; rfl, hdv⟩
    · obtain ⟨X, hX⟩ : ∃ X : Nat, X + 1 = I + d.length := ⟨I + d.length - 1, by omega⟩
      have hXp : X < p.length := by have := hN2.out; omega
      have e1 : IntKind.i64.wrap ((I : Int) + (d.length : Int)) = (I : Int) + (d.length : Int) := by rw [IntKind.wrap_i64]; have := hN2.out; omega
      have e2 : IntKind.i64.wrap ((I : Int) + (d.length : Int) - 1) = (X : Int) := by rw [IntKind.wrap_i64]; have := hN2.out; omega
      have hXi : (X : Int) < (p.length : Int) := by omega
      have hcx := hdv.cell X (by rw [hr0.out]; exact hXp)
      have hc := hid (div_c hN.out hI hX)
      have hrn := hid (div_r hN.out hI)
      rw [← hc.out] at hcx
      generalize divC p d (N - 1 - I) = c at *
      have hdq := hdv
      have hRl := hid (hr0.out (N - 1 - I))
      generalize divR p d (N - 1 - I) = R at *
      have hlast : Hid (I = 0 → divR p d (N - I) = remN p d ∧ divQ p d (N - I) = quoN p d) := fun h0 => by rw [h0]; exact div_last hN.out
      generalize hRe : divR p d (N - I) = R2 at *
      have hRe2 := hid hRe
      have hdq0 : Hid (Made w (subR d c I R 0) g gc wr) := hdq
      clear hdv hX hc hRe hdq
      go_wp2_with fail
      clear hcx
      go_loopw [8] (fun i wr => ∃ k : Nat, i = .int .i64 (k : Int) ∧ k ≤ d.length ∧ Made w (subR d c I R k) g gc wr) (fun i _ => d.length - (intOf i).toNat)
      case atStart => exact ⟨0, rfl, by omega, hdq0.out⟩
      case round =>
        clear hdq0
        obtain ⟨k, rfl, hk, hdk⟩ := hrel
        by_cases hlk : k < d.length
        · have hki : (k : Int) < (d.length : Int) := by omega
          have hcy := (hg2.below hdk.below).drew.cell0 k hlk
          obtain ⟨y, hy⟩ : ∃ y, Hid (d.getD k 0 = y) := ⟨_, rfl⟩
          rw [hy.out] at hcy
          have hlen2 := hid (subR_len d c I R k)
          obtain ⟨z, hz⟩ : ∃ z : Nat, Hid (z = I + k) := ⟨_, rfl⟩
          have hzp : z < p.length := by have := hN2.out; have := hz.out; omega
          have e4 : IntKind.i64.wrap ((I : Int) + (k : Int)) = (z : Int) := by rw [IntKind.wrap_i64]; have := hz.out; omega
          have hzi : (z : Int) < (p.length : Int) := by omega
          have hcz := hdk.drew.cell z (by rw [hlen2.out, hRl.out]; exact hzp)
          have hfz := hdk.drew.frozen z
          obtain ⟨x, hx⟩ : ∃ x, Hid ((subR d c I R k).getD z 0 = x) := ⟨_, rfl⟩
          rw [hx.out] at hcz
          obtain ⟨m1, hw1, hm1⟩ : ∃ v, IntKind.i64.wrap (c * y) = v ∧ Hid (wrap64 (c * y) = v) := ⟨wrap64 (c * y), IntWalk.i64_left _, rfl⟩
          obtain ⟨m2, hw2, hm2⟩ : ∃ v, IntKind.i64.wrap (x - m1) = v ∧ Hid (wrap64 (x - m1) = v) := ⟨wrap64 (x - m1), IntWalk.i64_left _, rfl⟩
          have hst := hid (hdk.drew.store z m2)
          have hnx : Hid ((subR d c I R k).set z m2 = subR d c I R (k + 1)) := by
            unfold Hid; rw [subR, ← hz.out, hx.out, hy.out, hm1.out, hm2.out]
          rw [hnx.out] at hst
          clear hdk hnx hlen2
          have hcy2 := (hg2.below hst.out.below).cell0 k hlk
          rw [hy.out] at hcy2
          go_wp2_with fail
          refine wp_region_held_drew (S := fun w' => w'.cell? ⟨b2, k, none⟩ = some (.int .i64 y)) (by kernel_rfl) hcy (fun hHeld => ?_)
          (refine wpAnyH_take (i := 0) (oi := ?oi101) (v := ?v101) ?hi101 (by kernel_rfl) (by kernel_rfl) (by kernel_rfl) ?hq101 ?hy101 (by assumption) ?hr101; (case hi101 => ((simp only [List.getElem?_toArray, List.getElem?_cons_zero]); exact rfl)); (case hq101 => exact fun _ _ _ h => h); (case hy101 => (refine Or.inl ⟨by rfl, ?_⟩; (intro w hSw); (try dsimp only at hSw); go_simp; (try with_reducible rfl))); (try simp only [Act.put, List.setIfInBounds_toArray, List.set_cons_zero, List.set_cons_succ])); (refine wpAnyH_take (i := 1) (oi := ?oi102) (v := ?v102) ?hi102 (by kernel_rfl) (by kernel_rfl) (by kernel_rfl) ?hq102 ?hy102 (by assumption) ?hr102; (case hi102 => ((simp only [List.getElem?_toArray, List.getElem?_cons_zero, List.getElem?_cons_succ]); exact rfl)); (case hq102 => exact fun _ _ _ h => h); (case hy102 => (refine Or.inl ⟨by rfl, ?_⟩; (intro w hSw); (try dsimp only at hSw); go_simp; (try with_reducible rfl))); (try simp only [Act.put, List.setIfInBounds_toArray, List.set_cons_zero, List.set_cons_succ])); (refine wpAnyH_take (i := 2) (oi := ?oi103) (v := ?v103) ?hi103 (by kernel_rfl) (by kernel_rfl) (by kernel_rfl) ?hq103 ?hy103 (by assumption) ?hr103; (case hi103 => ((simp only [List.getElem?_toArray, List.getElem?_cons_zero, List.getElem?_cons_succ]); exact rfl)); (case hq103 => exact fun _ _ _ h => h); (case hy103 => (refine Or.inl ⟨by rfl, ?_⟩; (intro w hSw); (try dsimp only at hSw); go_simp; (try with_reducible rfl))); (try simp only [Act.put, List.setIfInBounds_toArray, List.set_cons_zero, List.set_cons_succ])); (refine wpAnyH_take (i := 3) (oi := ?oi104) (v := ?v104) ?hi104 (by kernel_rfl) (by kernel_rfl) (by kernel_rfl) ?hq104 ?hy104 (by assumption) ?hr104; (case hi104 => ((simp only [List.getElem?_toArray, List.getElem?_cons_zero, List.getElem?_cons_succ]); exact rfl)); (case hq104 => exact fun _ _ _ h => h); (case hy104 => (refine Or.inl ⟨by rfl, ?_⟩; (intro w hSw); (try dsimp only at hSw); go_simp; (try with_reducible rfl))); (try simp only [Act.put, List.setIfInBounds_toArray, List.set_cons_zero, List.set_cons_succ])); (refine wpAnyH_take (i := 4) (oi := ?oi105) (v := ?v105) ?hi105 (by kernel_rfl) (by kernel_rfl) (by kernel_rfl) ?hq105 ?hy105 (by assumption) ?hr105; (case hi105 => ((simp only [List.getElem?_toArray, List.getElem?_cons_zero, List.getElem?_cons_succ]); exact rfl)); (case hq105 => exact fun _ _ _ h => h); (case hy105 => (refine Or.inl ⟨by rfl, ?_⟩; (intro w hSw); (try dsimp only at hSw); go_simp; (try with_reducible rfl))); (try simp only [Act.put, List.setIfInBounds_toArray, List.set_cons_zero, List.set_cons_succ])); (refine wpAnyH_take (i := 5) (oi := ?oi106) (v := ?v106) ?hi106 (by kernel_rfl) (by kernel_rfl) (by kernel_rfl) ?hq106 ?hy106 (by assumption) ?hr106; (case hi106 => ((simp only [List.getElem?_toArray, List.getElem?_cons_zero, List.getElem?_cons_succ]); exact rfl)); (case hq106 => exact fun _ _ _ h => h); (case hy106 => (refine Or.inl ⟨by rfl, ?_⟩; (intro w hSw); (try dsimp only at hSw); go_simp; (try with_reducible rfl))); (try simp only [Act.put, List.setIfInBounds_toArray, List.set_cons_zero, List.set_cons_succ])); (refine wpAnyH_take (i := 6) (oi := ?oi107) (v := ?v107) ?hi107 (by kernel_rfl) (by kernel_rfl) (by kernel_rfl) ?hq107 ?hy107 (by assumption) ?hr107; (case hi107 => ((simp only [List.getElem?_toArray, List.getElem?_cons_zero, List.getElem?_cons_succ]); exact rfl)); (case hq107 => exact fun _ _ _ h => h); (case hy107 => (refine Or.inl ⟨by rfl, ?_⟩; (intro w hSw); (try dsimp only at hSw); go_simp; (try with_reducible rfl))); (try simp only [Act.put, List.setIfInBounds_toArray, List.set_cons_zero, List.set_cons_succ])); (refine wpAnyH_take (i := 7) (oi := ?oi108) (v := ?v108) ?hi108 (by kernel_rfl) (by kernel_rfl) (by kernel_rfl) ?hq108 ?hy108 (by assumption) ?hr108; (case hi108 => ((simp only [List.getElem?_toArray, List.getElem?_cons_zero, List.getElem?_cons_succ]); exact rfl)); (case hq108 => exact fun _ _ _ h => h); (case hy108 => (refine Or.inl ⟨by rfl, ?_⟩; (intro w hSw); (try dsimp only at hSw); go_simp; (try with_reducible rfl))); (try simp only [Act.put, List.setIfInBounds_toArray, List.set_cons_zero, List.set_cons_succ])); (refine wpAnyH_take (i := 8) (oi := ?oi109) (v := ?v109) ?hi109 (by kernel_rfl) (by kernel_rfl) (by kernel_rfl) ?hq109 ?hy109 (by assumption) ?hr109; (case hi109 => ((simp only [List.getElem?_toArray, List.getElem?_cons_zero, List.getElem?_cons_succ]); exact rfl)); (case hq109 => exact fun _ _ _ h => h); (case hy109 => (refine Or.inl ⟨by rfl, ?_⟩; (intro w hSw); (try dsimp only at hSw); go_simp; (try with_reducible rfl))); (try simp only [Act.put, List.setIfInBounds_toArray, List.set_cons_zero, List.set_cons_succ])); (refine wpAnyH_take (i := 10) (oi := ?oi110) (v := ?v110) ?hi110 (by kernel_rfl) (by kernel_rfl) (by kernel_rfl) ?hq110 ?hy110 (by assumption) ?hr110; (case hi110 => ((simp only [List.getElem?_toArray, List.getElem?_cons_zero, List.getElem?_cons_succ]); exact rfl)); (case hq110 => exact fun _ _ _ h => h); (case hy110 => (refine Or.inl ⟨by rfl, ?_⟩; (intro w hSw); (try dsimp only at hSw); go_simp; (try with_reducible rfl))); (try simp only [Act.put, List.setIfInBounds_toArray, List.set_cons_zero, List.set_cons_succ])); (refine wpAnyH_take (i := 11) (oi := ?oi111) (v := ?v111) ?hi111 (by kernel_rfl) (by kernel_rfl) (by kernel_rfl) ?hq111 ?hy111 (by assumption) ?hr111; (case hi111 => ((simp only [List.getElem?_toArray, List.getElem?_cons_zero, List.getElem?_cons_succ]); exact rfl)); (case hq111 => exact fun _ _ _ h => h); (case hy111 => (refine Or.inl ⟨by rfl, ?_⟩; (intro w hSw); (try dsimp only at hSw); go_simp; (try with_reducible rfl))); (try simp only [Act.put, List.setIfInBounds_toArray, List.set_cons_zero, List.set_cons_succ])); (refine wpAnyH_take (i := 12) (oi := ?oi112) (v := ?v112) ?hi112 (by kernel_rfl) (by kernel_rfl) (by kernel_rfl) ?hq112 ?hy112 (by assumption) ?hr112; (case hi112 => ((simp only [List.getElem?_toArray, List.getElem?_cons_zero, List.getElem?_cons_succ]); exact rfl)); (case hq112 => exact fun _ _ _ h => h); (case hy112 => (refine Or.inl ⟨by rfl, ?_⟩; (intro w hSw); (try dsimp only at hSw); go_simp; (try with_reducible rfl))); (try simp only [Act.put, List.setIfInBounds_toArray, List.set_cons_zero, List.set_cons_succ])); (refine wpAnyH_take (i := 13) (oi := ?oi113) (v := ?v113) ?hi113 (by kernel_rfl) (by kernel_rfl) (by kernel_rfl) ?hq113 ?hy113 (by assumption) ?hr113; (case hi113 => ((simp only [List.getElem?_toArray, List.getElem?_cons_zero, List.getElem?_cons_succ]); exact rfl)); (case hq113 => exact fun _ _ _ h => h); (case hy113 => (refine Or.inl ⟨by rfl, ?_⟩; (intro w hSw); (try dsimp only at hSw); go_simp; (try with_reducible rfl))); (try simp only [Act.put, List.setIfInBounds_toArray, List.set_cons_zero, List.set_cons_succ])); (refine wpAnyH_take (i := 14) (oi := ?oi114) (v := ?v114) ?hi114 (by kernel_rfl) (by kernel_rfl) (by kernel_rfl) ?hq114 ?hy114 (by assumption) ?hr114; (case hi114 => ((simp only [List.getElem?_toArray, List.getElem?_cons_zero, List.getElem?_cons_succ]); exact rfl)); (case hq114 => exact fun _ _ _ h => h); (case hy114 => (refine Or.inl ⟨by rfl, ?_⟩; (intro w hSw); (try dsimp only at hSw); go_simp; (try with_reducible rfl))); (try simp only [Act.put, List.setIfInBounds_toArray, List.set_cons_zero, List.set_cons_succ])); (refine wpAnyH_take (i := 15) (oi := ?oi115) (v := ?v115) ?hi115 (by kernel_rfl) (by kernel_rfl) (by kernel_rfl) ?hq115 ?hy115 (by assumption) ?hr115; (case hi115 => ((simp only [List.getElem?_toArray, List.getElem?_cons_zero, List.getElem?_cons_succ]); exact rfl)); (case hq115 => exact fun _ _ _ h => h); (case hy115 => (refine Or.inl ⟨by rfl, ?_⟩; (intro w hSw); (try dsimp only at hSw); go_simp; (try with_reducible rfl))); (try simp only [Act.put, List.setIfInBounds_toArray, List.set_cons_zero, List.set_cons_succ]))
          refine wpAnyH_ready (rs := [9]) (by kernel_rfl) (by simp) ?_; refine AllReadyH.cons rfl (fun K hK => ?_) AllReadyH.nil; go_simp
          refine hK.out _ _ ?ks (fun hHeld => ?_); (case ks => (exact hcy)); clear hK K; (try simp only [Act.put, List.setIfInBounds_toArray, List.set_cons_zero, List.set_cons_succ])
          (refine wpAnyH_take (i := 16) (oi := ?oi116) (v := ?v116) ?hi116 (by kernel_rfl) (by kernel_rfl) (by kernel_rfl) ?hq116 ?hy116 (by assumption) ?hr116; (case hi116 => ((simp only [List.getElem?_toArray, List.getElem?_cons_zero, List.getElem?_cons_succ]); exact rfl)); (case hq116 => exact fun _ _ _ h => h); (case hy116 => (refine Or.inl ⟨by rfl, ?_⟩; (intro w hSw); (try dsimp only at hSw); go_simp; (try with_reducible rfl))); (try simp only [Act.put, List.setIfInBounds_toArray, List.set_cons_zero, List.set_cons_succ])); (refine wpAnyH_take (i := 17) (oi := ?oi117) (v := ?v117) ?hi117 (by kernel_rfl) (by kernel_rfl) (by kernel_rfl) ?hq117 ?hy117 (by assumption) ?hr117; (case hi117 => ((simp only [List.getElem?_toArray, List.getElem?_cons_zero, List.getElem?_cons_succ]); exact rfl)); (case hq117 => exact fun _ _ _ h => h); (case hy117 => (refine Or.inl ⟨by rfl, ?_⟩; (intro w hSw); (try dsimp only at hSw); go_simp; (try with_reducible rfl))); (try simp only [Act.put, List.setIfInBounds_toArray, List.set_cons_zero, List.set_cons_succ]))
          refine wpAnyH_ready (rs := [18]) (by kernel_rfl) (by simp) ?_; refine AllReadyH.cons rfl (fun K hK => ?_) AllReadyH.nil; go_simp
          refine hK.out _ _ ?ks (fun hHeld => ?_); (case ks => exact hcy2); clear hK K
          refine wpAnyH_done (by kernel_rfl) ?_ _
          go_wp2_with fail
          go_roundw
          case rel => exact ⟨k + 1, by go_num, by omega, hst.out⟩
          case measure => simp [intOf]; omega
        · have e : k = d.length := by omega
          subst e
          rw [← hrn.out] at hdk
          have hfin := hid hdk
          clear hdk
          have e5 : IntKind.i64.wrap ((I : Int) - 1) = (I : Int) - 1 := by rw [IntKind.wrap_i64]; omega
          go_wp2_with fail
          go_roundw
          case rel =>
            rcases Nat.eq_zero_or_pos I with h0 | h0
            · obtain ⟨a1, a2⟩ := hlast.out h0
              refine .inl ⟨val_i (by omega), ?_⟩
              rw [← a1]; exact hfin.out
            · refine .inr ⟨I - 1, val_i (by omega), by omega, ?_⟩
              rw [show N - 1 - (I - 1) = N - I from by omega, hRe2.out]; exact hfin.out
          case measure => (simp [intOf]; try omega)
end Go.Proofs.Ytpflnmcecnbilaa
