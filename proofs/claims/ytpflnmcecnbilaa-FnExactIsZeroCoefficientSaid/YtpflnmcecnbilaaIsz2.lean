/-
  Contracts: the cyclotomic polynomials; whether a coefficient is zero.
-/
import Derived.Test.YtpflnmcecnbilaaIsz
import Derived.Test.YtpflnmcecnbilaaLaw1
namespace Go.Proofs.Ytpflnmcecnbilaa
open Go.RowKit

theorem cycS_set (n : Nat) : ((List.replicate (n + 1) (0 : Int)).set 0 (-1)).set n 1 = cycP n 1 := rfl
theorem cycS_len (n : Nat) : (cycP n 1).length = n + 1 := by rw [cycP_first, cycS]; simp
theorem tmod_zero_yes {n e : Nat} (h : n % e = 0) : ((n : Int) % (e : Int) == 0) = true := by
  rw [beq_iff_eq, ← Int.natCast_emod, h]; rfl
theorem tmod_zero_no {n e : Nat} (h : n % e ≠ 0) : ((n : Int) % (e : Int) == 0) = false := by
  rw [beq_eq_false_iff_ne, ← Int.natCast_emod]; omega
set_option maxRecDepth 4000 in
set_option maxHeartbeats 2000000 in
theorem cyclotomic_any (B : Nat) : ∀ (n : Nat) (w : World), n ≤ B → 1 ≤ n → n ≤ 24 → Calls Try.prog 186 #[.int .i64 (n : Int)] w (RetInts w (cycT n)) := by
  obtain ⟨i0, hi, hz0, hz1, hz2⟩ := info_parts info_int
  induction B with
  | zero => intro n w h0 h1; omega
  | succ B ih0 =>
    intro n w hnB h1 h24
    have ih := hid ih0
    have hfacts := hid (cyc_facts n (by omega) h1).1
    have hlens : Hid (∀ e, e < n → 1 ≤ e → (cycP n e).length ≤ 25 ∧ (n % e = 0 → (cycT e).length ≤ (cycP n e).length)) := cyc_lens n (by omega)
    have hsub : Hid (∀ e, e < n → 1 ≤ e → 2 ≤ (cycT e).length) := fun e he h1e => (cyc_facts e (by omega) h1e).2.1
    have e1 : IntKind.i64.wrap ((n : Int) + 1) = ((n + 1 : Nat) : Int) := by rw [IntKind.wrap_i64]; omega
    clear ih0
    go_enter Try.func186, Try.ntmps186
    go_wp2_with (refine wpList_make_full _ rfl _ _ 24 rfl w.heap.size 3 i0 (.int .i64 0) 1 Try.underlying24 hi hz0 hz1 .i64 .i64 _ _ (n + 1) rfl rfl (by first | rfl | omega) (by first | rfl | omega) ?c2 ?c3 ?c4 ?_)
    case c2 => rw [hz2]; omega
    case c3 => simp only [maxLen]; omega
    case c4 => exact Nat.le_refl _
    intro w2 hown hgr
    have hmk := Made.make (Below.refl w.heap.size w) hown hgr
    clear hown hgr
    generalize w.heap.size = g at hmk ⊢
    obtain ⟨v0, hc0⟩ : ∃ v, w2.cell? ⟨g, 0, none⟩ = some (.int .i64 v) := ⟨_, hmk.cell 0 (by simp)⟩
    have hf0 := hmk.frozen 0
    have hmk1 := hmk.store 0 (-1)
    obtain ⟨v1, hc1⟩ : ∃ v, (w2.setCell ⟨g, 0, none⟩ (.int .i64 (-1))).cell? ⟨g, n, none⟩ = some (.int .i64 v) := ⟨_, hmk1.cell n (by simp)⟩
    have hf1 := hmk1.frozen n
    have hst := hmk1.store n 1
    rw [cycS_set] at hst
    have hst2 := hid hst
    have hcl := hid (cycS_len n)
    clear hmk hmk1 hst
    go_wp2_with fail
    generalize (w2.setCell ⟨g, 0, none⟩ (.int .i64 (-1))).setCell ⟨g, n, none⟩ (.int .i64 1) = w3 at *
    clear hc0 hc1 hf0 hf1 e1
    go_loopw [3, 4] (fun q u wr => ∃ (e g c : Nat), q = .slice (some ⟨g, 0, none⟩) (cycP n e).length c ∧ u = .int .i64 (e : Int) ∧ 1 ≤ e ∧ e ≤ n ∧ Made w (cycP n e) g c wr) (fun _ u _ => n - (intOf u).toNat)
    case atStart => exact ⟨1, g, n + 1, by rw [hcl.out], rfl, by omega, h1, hst2.out⟩
    case round =>
      clear hst2
      rename_i wr
      obtain ⟨e, g1, c1, rfl, rfl, he1, hen, hmd⟩ := hrel
      by_cases hlt : e < n
      · have hlI : (e : Int) < (n : Int) := by omega
        have hne : ¬ (e : Int) = 0 := by omega
        have e2 : IntKind.i64.wrap ((e : Int) + 1) = ((e + 1 : Nat) : Int) := by rw [IntKind.wrap_i64]; omega
        by_cases hz : n % e = 0
        · have htm := tmod_zero_yes hz
          have hnx := hid (cycP_yes he1 hz)
          obtain ⟨hl25, hlq⟩ := hlens.out e hlt he1
          have hlq2 := hlq hz
          have hl2 := hsub.out e hlt he1
          have hih := hid (ih.out e wr (by omega) he1 (by omega))
          clear hz hlq
          go_wp2_with fail
          refine hih.out.mono ?_; rintro x w4 ⟨g2, c2, rfl, hm2⟩
          have hmd2 := hmd.step hm2.below
          clear hih hmd
          go_wp2_with fail
          refine (rest_any g1 c1 (cycP n e) g2 c2 (cycT e) w4 (by omega) (by omega) (by omega) hmd2.grp hm2.grp).mono ?_; rintro x w5 ⟨a1, b1, a2, b2, rfl, hdv⟩
          have hq2 := hid (hdv.quo.since hmd2.below)
          rw [← hnx.out] at hq2
          clear hmd2 hm2 hdv
          go_wp2_with fail
          go_roundw
          case rel => exact ⟨e + 1, _, _, by rw [hnx.out], by go_num, by omega, by omega, hq2.out⟩
          case measure => simp [intOf]; omega
        · have htm := tmod_zero_no hz
          have hnx := hid (cycP_no he1 hz)
          have hmd2 := hid hmd
          clear hz hmd
          go_wp2_with fail
          go_roundw
          case rel => exact ⟨e + 1, g1, c1, by rw [hnx.out], by go_num, by omega, by omega, by rw [hnx.out]; exact hmd2.out⟩
          case measure => simp [intOf]; omega
      · have hlI : ¬ (e : Int) < (n : Int) := by omega
        have hen2 : e = n := by omega
        subst hen2
        have hmd2 := hid hmd
        clear hmd hlt
        go_wp2_with fail
        go_ret
        exact ⟨g1, c1, by rw [← hfacts.out]; rfl, by rw [← hfacts.out]; exact hmd2.out⟩
set_option maxRecDepth 4000 in
set_option maxHeartbeats 2000000 in
theorem l7Cyclotomic_any (B : Nat) : ∀ (n : Nat) (w : World), n ≤ B → 1 ≤ n → n ≤ 24 → Calls Try.prog 154 #[.int .i64 (n : Int)] w (RetInts w (cycT n)) := by
  obtain ⟨i0, hi, hz0, hz1, hz2⟩ := info_parts info_int
  induction B with
  | zero => intro n w h0 h1; omega
  | succ B ih0 =>
    intro n w hnB h1 h24
    have ih := hid ih0
    have hfacts := hid (cyc_facts n (by omega) h1).1
    have hlens : Hid (∀ e, e < n → 1 ≤ e → (cycP n e).length ≤ 25 ∧ (n % e = 0 → (cycT e).length ≤ (cycP n e).length)) := cyc_lens n (by omega)
    have hsub : Hid (∀ e, e < n → 1 ≤ e → 2 ≤ (cycT e).length) := fun e he h1e => (cyc_facts e (by omega) h1e).2.1
    have e1 : IntKind.i64.wrap ((n : Int) + 1) = ((n + 1 : Nat) : Int) := by rw [IntKind.wrap_i64]; omega
    clear ih0
    go_enter Try.func154, Try.ntmps154
    go_wp2_with (refine wpList_make_full _ rfl _ _ 24 rfl w.heap.size 3 i0 (.int .i64 0) 1 Try.underlying24 hi hz0 hz1 .i64 .i64 _ _ (n + 1) rfl rfl (by first | rfl | omega) (by first | rfl | omega) ?c2 ?c3 ?c4 ?_)
    case c2 => rw [hz2]; omega
    case c3 => simp only [maxLen]; omega
    case c4 => exact Nat.le_refl _
    intro w2 hown hgr
    have hmk := Made.make (Below.refl w.heap.size w) hown hgr
    clear hown hgr
    generalize w.heap.size = g at hmk ⊢
    obtain ⟨v0, hc0⟩ : ∃ v, w2.cell? ⟨g, 0, none⟩ = some (.int .i64 v) := ⟨_, hmk.cell 0 (by simp)⟩
    have hf0 := hmk.frozen 0
    have hmk1 := hmk.store 0 (-1)
    obtain ⟨v1, hc1⟩ : ∃ v, (w2.setCell ⟨g, 0, none⟩ (.int .i64 (-1))).cell? ⟨g, n, none⟩ = some (.int .i64 v) := ⟨_, hmk1.cell n (by simp)⟩
    have hf1 := hmk1.frozen n
    have hst := hmk1.store n 1
    rw [cycS_set] at hst
    have hst2 := hid hst
    have hcl := hid (cycS_len n)
    clear hmk hmk1 hst
    go_wp2_with fail
    generalize (w2.setCell ⟨g, 0, none⟩ (.int .i64 (-1))).setCell ⟨g, n, none⟩ (.int .i64 1) = w3 at *
    clear hc0 hc1 hf0 hf1 e1
    go_loopw [3, 4] (fun q u wr => ∃ (e g c : Nat), q = .slice (some ⟨g, 0, none⟩) (cycP n e).length c ∧ u = .int .i64 (e : Int) ∧ 1 ≤ e ∧ e ≤ n ∧ Made w (cycP n e) g c wr) (fun _ u _ => n - (intOf u).toNat)
    case atStart => exact ⟨1, g, n + 1, by rw [hcl.out], rfl, by omega, h1, hst2.out⟩
    case round =>
      clear hst2
      rename_i wr
      obtain ⟨e, g1, c1, rfl, rfl, he1, hen, hmd⟩ := hrel
      by_cases hlt : e < n
      · have hlI : (e : Int) < (n : Int) := by omega
        have hne : ¬ (e : Int) = 0 := by omega
        have e2 : IntKind.i64.wrap ((e : Int) + 1) = ((e + 1 : Nat) : Int) := by rw [IntKind.wrap_i64]; omega
        by_cases hz : n % e = 0
        · have htm := tmod_zero_yes hz
          have hnx := hid (cycP_yes he1 hz)
          obtain ⟨hl25, hlq⟩ := hlens.out e hlt he1
          have hlq2 := hlq hz
          have hl2 := hsub.out e hlt he1
          have hih := hid (ih.out e wr (by omega) he1 (by omega))
          clear hz hlq
          go_wp2_with fail
          refine hih.out.mono ?_; rintro x w4 ⟨g2, c2, rfl, hm2⟩
          have hmd2 := hmd.step hm2.below
          clear hih hmd
          go_wp2_with fail
          refine (l7Quotient_any g1 c1 (cycP n e) g2 c2 (cycT e) w4 (by omega) (by omega) (by omega) hmd2.grp hm2.grp).mono ?_; rintro x w5 ⟨a2, b2, rfl, hdv⟩
          have hq2 := hid (hdv.since hmd2.below)
          rw [← hnx.out] at hq2
          clear hmd2 hm2 hdv
          go_wp2_with fail
          go_roundw
          case rel => exact ⟨e + 1, _, _, by rw [hnx.out], by go_num, by omega, by omega, hq2.out⟩
          case measure => simp [intOf]; omega
        · have htm := tmod_zero_no hz
          have hnx := hid (cycP_no he1 hz)
          have hmd2 := hid hmd
          clear hz hmd
          go_wp2_with fail
          go_roundw
          case rel => exact ⟨e + 1, g1, c1, by rw [hnx.out], by go_num, by omega, by omega, by rw [hnx.out]; exact hmd2.out⟩
          case measure => simp [intOf]; omega
      · have hlI : ¬ (e : Int) < (n : Int) := by omega
        have hen2 : e = n := by omega
        subst hen2
        have hmd2 := hid hmd
        clear hmd hlt
        go_wp2_with fail
        go_ret
        exact ⟨g1, c1, by rw [← hfacts.out]; rfl, by rw [← hfacts.out]; exact hmd2.out⟩
theorem cyc_len {n : Nat} (h1 : 1 ≤ n) (h24 : n ≤ 24) : 2 ≤ (cycT n).length ∧ (cycT n).length ≤ n + 1 ∧ (cycT n).getD ((cycT n).length - 1) 0 = 1 := (cyc_facts n (by omega) h1).2
set_option maxRecDepth 4000 in
set_option maxHeartbeats 1000000 in
theorem vanishes_any (b cap : Nat) (p : List Int) (w : World) (h1 : 1 ≤ p.length) (h24 : p.length ≤ 24) (hg : GrpAt w b 0 p) :
    Calls Try.prog 155 #[.slice (some ⟨b, 0, none⟩) p.length cap] w fun e w' => e = .returned (.bool (zeroB (remN p (cycT p.length)))) ∧ Below w.heap.size w w' := by
  obtain ⟨hl2, hln, hlead0⟩ := cyc_len h1 h24
  have hlead := hid hlead0
  clear hlead0
  obtain ⟨d, hd⟩ : ∃ d, Hid (cycT p.length = d) := ⟨_, rfl⟩
  rw [hd.out] at hl2 hln hlead ⊢
  obtain ⟨Zv, hZv⟩ : ∃ Zv, Hid (zeroB (remN p d) = Zv) := ⟨_, rfl⟩
  rw [hZv.out]
  have hcon := hid (cyclotomic_any p.length p.length w (Nat.le_refl _) h1 h24)
  rw [hd.out] at hcon
  go_enter Try.func155, Try.ntmps155
  go_wp2_with fail
  refine hcon.out.mono ?_; rintro x w1 ⟨g2, c2, rfl, hm2⟩
  clear hcon
  go_wp2_with fail
  refine (rest_any b cap p g2 c2 d w1 (by omega) (by omega) (by omega) (hg.below hm2.below) hm2.grp).mono ?_; rintro x w2 ⟨g1, c1, g3, c3, rfl, hdv⟩
  have hbel := hm2.below.trans (hdv.left.below.mono hm2.below.size)
  obtain ⟨L, hL⟩ : ∃ L, Hid (lowL p d = L) := ⟨_, rfl⟩
  have hLp : Hid (L ≤ p.length) := by unfold Hid; rw [← hL.out]; exact Nat.min_le_left _ _
  have hrl : Hid ((remN p d).length = p.length) := divR_len p d _
  have hyes : Hid ((∀ k, k < L → (remN p d).getD k 0 = 0) → Zv = true) := fun h => by rw [← hZv.out]; exact van_yes (by omega) hlead.out hln (by rw [← hL.out] at h; exact h)
  have hno : Hid (∀ k, k < L → (remN p d).getD k 0 ≠ 0 → Zv = false) := fun k hk h => by rw [← hZv.out]; exact van_no (by rw [← hL.out] at hk; exact hk) h
  have hgr := hdv.left.grp
  have hL24 : L ≤ 24 := Nat.le_trans hLp.out h24
  rw [hL.out]
  clear hZv
  generalize remN p d = R at *
  clear hm2 hdv hg hlead hL hd
  go_wp2_with fail
  go_loopw [17] (fun i wr => ∃ k : Nat, i = .int .i64 (k : Int) ∧ k ≤ L ∧ Hid (∀ j, j < k → R.getD j 0 = 0) ∧ GrpAt wr g1 0 R ∧ Below w.heap.size w wr) (fun i _ => L - (intOf i).toNat)
  case atStart => exact ⟨0, rfl, by omega, fun j hj => by omega, hgr, hbel⟩
  case round =>
    clear hgr hbel
    rename_i wr
    obtain ⟨k, rfl, hk, hall, hgr, hbel⟩ := hrel
    by_cases hlt : k < L
    · have hlI : (k : Int) < (L : Int) := by omega
      have hcx := hgr.cell0 k (by rw [hrl.out]; have := hLp.out; omega)
      obtain ⟨x, hx⟩ : ∃ x, Hid (R.getD k 0 = x) := ⟨_, rfl⟩
      rw [hx.out] at hcx
      by_cases h0 : x = 0
      · have hb : (x != 0) = false := by rw [h0]; rfl
        have hall2 : Hid (∀ j, j < k + 1 → R.getD j 0 = 0) := fun j hj => by
          rcases (by omega : j < k ∨ j = k) with h | rfl
          · exact hall.out j h
          · rw [hx.out]; exact h0
        clear h0 hall
        go_wp2_with fail
        go_roundw
        case rel => exact ⟨k + 1, by go_num, by omega, hall2, hgr, hbel⟩
        case measure => simp [intOf]; omega
      · have hb : (x != 0) = true := by rw [bne_iff_ne]; exact h0
        have hres := hid (hno.out k hlt (by rw [hx.out]; exact h0))
        clear h0 hall
        go_wp2_with fail
        go_ret
        exact ⟨ret_b (by rw [hres.out]), hbel⟩
    · have hres := hid (hyes.out fun j hj => hall.out j (by omega))
      have hlI : ¬ (k : Int) < (L : Int) := by omega
      go_wp2_with fail
      go_ret
      exact ⟨ret_b (by rw [hres.out]), hbel⟩
set_option maxHeartbeats 1000000 in
theorem isZeroCoefficient_any (b off cap : Nat) (l : List Int) (a k : Int) (w : World) (hl : l.length ≤ 1099511627776) (hg : GrpAt w b off l) :
    Calls Try.prog 59 #[.agg #[.slice (some ⟨b, off, none⟩) l.length cap], .int .i64 a, .int .i64 k] w fun e w' => e = .returned (.bool (izF l a k)) ∧ Below w.heap.size w w' := by
  have hst := St.init cap 26 hg
  clear hg
  by_cases h : coefOk l a k = true
  · obtain ⟨y1, y2⟩ := coefOk_yes h
    have hr := hid (izF_yes h)
    obtain ⟨n1, n24⟩ := coefF_ok_len h
    clear h
    go_enter Try.func59, Try.ntmps59
    go_wp2_with (first | (go_at_call 132; refine (isSet_any _ _ _ _ _ _ hl (St.grp (by assumption))).mono ?_; rintro e wN ⟨rfl, hbN⟩; have hstN := St.step (by assumption) hbN; have hboxN := hstN.box; clear hbN) | (go_at_call 145; refine (has_any _ _ _ _ _ _ hl (St.grp (by assumption))).mono ?_; rintro e wN ⟨rfl, hbN⟩; have hstN := St.step (by assumption) hbN; have hboxN := hstN.box; clear hbN))
    refine (coefficientCounts_any _ _ _ _ _ _ _ hl (St.grp (by assumption))).mono ?_; rintro x w4 ⟨g, c, rfl, hm⟩
    have hst4 := St.step (by assumption) hm.below
    go_wp2_with fail
    refine (vanishes_any g c _ w4 n1 n24 hm.grp).mono ?_; rintro x w5 ⟨rfl, hb5⟩
    have hst5 := hst4.step hb5
    go_wp2_with fail
    go_ret
    exact ⟨ret_b (by rw [hr.out]), hst5.below⟩
  · have h' : coefOk l a k = false := by simpa using h
    have hr := hid (izF_no h')
    have hcc := coefOk_no h'
    clear h h'
    rcases hcc with y1 | ⟨y1, y2⟩
    · go_enter Try.func59, Try.ntmps59
      go_wp2_with (first | (go_at_call 132; refine (isSet_any _ _ _ _ _ _ hl (St.grp (by assumption))).mono ?_; rintro e wN ⟨rfl, hbN⟩; have hstN := St.step (by assumption) hbN; have hboxN := hstN.box; clear hbN))
      go_ret
      exact ⟨ret_b (by rw [hr.out]), St.below (by assumption)⟩
    · go_enter Try.func59, Try.ntmps59
      go_wp2_with (first | (go_at_call 132; refine (isSet_any _ _ _ _ _ _ hl (St.grp (by assumption))).mono ?_; rintro e wN ⟨rfl, hbN⟩; have hstN := St.step (by assumption) hbN; have hboxN := hstN.box; clear hbN) | (go_at_call 145; refine (has_any _ _ _ _ _ _ hl (St.grp (by assumption))).mono ?_; rintro e wN ⟨rfl, hbN⟩; have hstN := St.step (by assumption) hbN; have hboxN := hstN.box; clear hbN))
      go_ret
      exact ⟨ret_b (by rw [hr.out]), St.below (by assumption)⟩
set_option maxRecDepth 4000 in
set_option maxHeartbeats 1000000 in
theorem sIsZeroCoefficient_any (b off cap : Nat) (l : List Int) (a k : Int) (w : World) (hl : l.length ≤ 1099511627776) (hg : GrpAt w b off l) :
    Calls Try.prog 58 #[.agg #[.slice (some ⟨b, off, none⟩) l.length cap], .int .i64 a, .int .i64 k] w fun e w' => e = .returned (.bool (izF l a k)) ∧ Below w.heap.size w w' := by
  have hst := St.init cap 26 hg
  have hbox := hst.box
  clear hg
  by_cases h : coefOk l a k = true
  · have hr := hid (izF_yes h)
    obtain ⟨n1, n24⟩ := coefF_ok_len h
    have hcon := hid (sCoefficientCounts_any b off cap l a k _ hl hst.grp)
    generalize coefF l a k = p at *
    obtain ⟨hl2, hln, hlead0⟩ := cyc_len n1 n24
    clear hlead0 h
    obtain ⟨d, hd⟩ : ∃ d, Hid (cycT p.length = d) := ⟨_, rfl⟩
    rw [hd.out] at hl2 hln hr
    have hpz : ((p.length : Int) == 0) = false := by rw [beq_eq_false_iff_ne]; omega
    go_enter Try.func58, Try.ntmps58
    go_wp2_with fail
    refine hcon.out.mono ?_; rintro x w1 ⟨g, c, rfl, hm⟩
    have hst1 := hst.step hm.below
    have hbel1 := hst1.below
    have hcy := hid (l7Cyclotomic_any p.length p.length w1 (Nat.le_refl _) n1 n24)
    rw [hd.out] at hcy
    clear hcon hbox hst hst1
    go_wp2_with fail
    refine hcy.out.mono ?_; rintro x w2 ⟨g2, c2, rfl, hm2⟩
    have hgp := hm.grp.below hm2.below
    have hbel2 := hbel1.trans (hm2.below.mono hbel1.size)
    clear hcy hm hbel1
    go_wp2_with fail
    refine (l7Rest_any g c p g2 c2 d w2 (by omega) (by omega) (by omega) hgp hm2.grp).mono ?_; rintro x w3 ⟨g1, c1, rfl, hm3⟩
    have hbel3 := hbel2.trans (hm3.below.mono hbel2.size)
    have hrl : Hid ((remN p d).length = p.length) := divR_len p d _
    have hgr := hm3.grp
    have hyes : Hid ((∀ k, k < (remN p d).length → (remN p d).getD k 0 = 0) → zeroB (remN p d) = true) := zeroB_yes
    have hno : Hid (∀ k, k < (remN p d).length → (remN p d).getD k 0 ≠ 0 → zeroB (remN p d) = false) := fun k hk h => zeroB_no hk h
    have hR24 : (remN p d).length ≤ 24 := by rw [hrl.out]; exact n24
    generalize remN p d = R at *
    clear hm2 hm3 hgp hbel2 hd hrl
    go_wp2_with fail
    go_loopw [9] (fun i wr => ∃ q : Nat, i = .int .i64 (q : Int) ∧ q ≤ R.length ∧ Hid (∀ j, j < q → R.getD j 0 = 0) ∧ GrpAt wr g1 0 R ∧ Below w.heap.size w wr) (fun i _ => R.length - (intOf i).toNat)
    case atStart => exact ⟨0, rfl, by omega, fun j hj => by omega, hgr, hbel3⟩
    case round =>
      clear hgr hbel3
      rename_i wr
      obtain ⟨q, rfl, hq, hall, hgr, hbel⟩ := hrel
      by_cases hlt : q < R.length
      · have hlI : (q : Int) < (R.length : Int) := by omega
        have hcx := hgr.cell0 q hlt
        obtain ⟨x, hx⟩ : ∃ x, Hid (R.getD q 0 = x) := ⟨_, rfl⟩
        rw [hx.out] at hcx
        by_cases h0 : x = 0
        · have hb : (x != 0) = false := by rw [h0]; rfl
          have hall2 : Hid (∀ j, j < q + 1 → R.getD j 0 = 0) := fun j hj => by
            rcases (by omega : j < q ∨ j = q) with h | rfl
            · exact hall.out j h
            · rw [hx.out]; exact h0
          clear h0 hall
          go_wp2_with fail
          go_roundw
          case rel => exact ⟨q + 1, by go_num, by omega, hall2, hgr, hbel⟩
          case measure => simp [intOf]; omega
        · have hb : (x != 0) = true := by rw [bne_iff_ne]; exact h0
          have hres := hid (hno.out q hlt (by rw [hx.out]; exact h0))
          clear h0 hall
          go_wp2_with fail
          go_ret
          exact ⟨ret_b (by rw [hr.out, hres.out]), hbel⟩
      · have hres := hid (hyes.out fun j hj => hall.out j (by omega))
        have hlI : ¬ (q : Int) < (R.length : Int) := by omega
        go_wp2_with fail
        go_ret
        exact ⟨ret_b (by rw [hr.out, hres.out]), hbel⟩
  · have h' : coefOk l a k = false := by simpa using h
    have hr := hid (izF_no h')
    have hcon := hid (sCoefficientCounts_any b off cap l a k _ hl hst.grp)
    rw [coefF_no h'] at hcon
    clear h h'
    go_enter Try.func58, Try.ntmps58
    go_wp2_with fail
    refine hcon.out.mono ?_; rintro x w1 ⟨g, c, rfl, hm⟩
    have hst1 := hst.step hm.below
    go_wp2_with fail
    go_ret
    exact ⟨ret_b (by rw [hr.out]), hst1.below⟩
end Go.Proofs.Ytpflnmcecnbilaa
