/-
  Contracts of the reference's drawing: lists in order, subgroups.
-/
import Derived.Test.YtpflnmcecnbilaaDraw5
import Derived.Test.YtpflnmcecnbilaaGen
import Derived.Deep.AppendLies
import Derived.Deep.Cut
namespace Go.Proofs.Ytpflnmcecnbilaa
open Go.RowKit

/-- append at a step of a region that draws, whatever is appended (nothing, too) -/
theorem step_append_any {P : Program} (w : World) {ops : Array Oper} {o : Oper} {a : Act} {K : Act → World → Prop} {Q : Exit → Act → World → Prop} {E : Prop} (hgd : o.guard = none) (s x : Operand) (t : TypeId)
    (ho : o.op = .call { callee := .builtin .append, args := #[s, x], argTypes := #[t, t] })
    (base : Nat) (e : TypeId) (i : TypeInfo) (z : Value) (size bytes : Nat) (ht : P.underlying t = some (.slice e)) (hi : P.info? e = some i) (hz : i.zero = some z)
    (hsize : i.size = size) (hby : i.bytes = bytes) (hzs : z.cells.size = size) (hsz : 0 < size)
    (v : Value) (n : Nat) (xs : List Value) (hs : a.eval s = v) (hown : w.ownsRow base e size v n xs)
    (ad : Addr) (m c : Nat) (news : List Value) (hx : a.eval x = .slice (some ad) m c) (hl : news.length = m * size) (hnews : ∀ j u, news[j]? = some u → w.cell? (ad.add j) = some u) (h1 : ∀ u ∈ news, u.oneCell' = true)
    (h63 : n + m ≤ maxLen) (hbytes : (n + m) * bytes ≤ 140737488355328) (hbase : base ≤ w.heap.size)
    (h : ∀ v' w', w'.ownsRow base e size v' (n + m) (xs ++ news) → w.grownBy w' v.ownBlock → (v' = .slice none 0 0 ↔ v = .slice none 0 0 ∧ m = 0) → K (a.put o.dst v') w') :
    if Region.wanted o (yielded ops a.tmps) = true then Oper.wp P o a w K Q else E := by
  have hw : Region.wanted o (yielded ops a.tmps) = true := by simp [Region.wanted, hgd]
  rw [if_pos hw]
  obtain ⟨v', w', hr, h2, h3, h4, _⟩ := run_append_own_at (P := P) w base t o.type e i z size bytes ht hi hz hsize hby hzs hsz v n xs hown ad m c news hl hnews h1 h63 hbytes hbase
  unfold Oper.wp execOp
  simp only [ho, resolve, invoke, builtin, Sem.run_bind, Sem.run_pure, Result.andThen_ok, List.map_toArray, List.map_cons, List.map_nil, hs, hx, hr]
  exact h v' w' h2 h3 h4
/-- a list of sets as numbers, in memory that stays -/
def Nums (L : List Nat) : Prop := ∀ x ∈ L, x < 16777216
def Puts (w : World) (L : List Nat) (e : Ending) (w' : World) : Prop := ∃ g cap L', e = .returned (.slice (some ⟨g, 0, none⟩) (cst L').length cap) ∧ GrpAt w' g 0 (cst L') ∧ Nums L' ∧ (cst L').length ≤ cap ∧ L.length ≤ L'.length ∧ 1 ≤ L'.length ∧ L'.length ≤ L.length + 1 ∧ Below w.heap.size w w'
theorem Growing.appM {w wr w1 : World} {l l2 : List Int} {v v' : Value} {m : Nat} (h : Growing w l v wr) (hm : l2.length = m) (hown : w1.ownsRow w.heap.size 3 1 v' (l.length + m) (l.map (Value.int .i64) ++ l2.map (Value.int .i64)))
    (hg : wr.grownBy w1 v.ownBlock) (hn : v' = .slice none 0 0 ↔ v = .slice none 0 0 ∧ m = 0) : Growing w (l ++ l2) v' w1 := by
  subst hm; exact h.app hown hg (fun e => h.nonnil (hn.1 e).1)
theorem Made.capGe {w wr : World} {l : List Int} {g cap : Nat} (h : Made w l g cap wr) : l.length ≤ cap := by
  rcases h.own.2 with ⟨e, _⟩ | ⟨g', cap', cur, e, _, _, h1, _⟩
  · cases e
  · simp at e; omega
/-- cells of a part of a list -/
theorem news_take {w : World} {g : Nat} {L : List Nat} (h : GrpAt w g 0 (cst L)) (k : Nat) : ∀ j u, ((cst (L.take k)).map (Value.int .i64))[j]? = some u → w.cell? ((⟨g, 0, none⟩ : Addr).add j) = some u := fun j u hu => by
  refine news_of h j u ?_
  rw [List.getElem?_map] at hu ⊢
  unfold cst at hu ⊢
  rw [List.getElem?_map, List.getElem?_take] at hu
  rw [List.getElem?_map]
  split at hu
  · exact hu
  · simp at hu
theorem news_drop {w : World} {g : Nat} {L : List Nat} (h : GrpAt w g 0 (cst L)) (k : Nat) : ∀ j u, ((cst (L.drop k)).map (Value.int .i64))[j]? = some u → w.cell? ((⟨g, k, none⟩ : Addr).add j) = some u := fun j u hu => by
  have e : (⟨g, k, none⟩ : Addr).add j = (⟨g, 0, none⟩ : Addr).add (k + j) := by simp only [Addr.add]; split <;> split <;> simp_all <;> omega
  rw [e]
  refine news_of h (k + j) u ?_
  rw [List.getElem?_map] at hu ⊢
  unfold cst at hu ⊢
  rw [List.getElem?_map, List.getElem?_drop] at hu
  rw [List.getElem?_map]; exact hu
theorem news_one {w : World} {q : Nat} {x : Int} (h : w.cell? ⟨q, 0, none⟩ = some (.int .i64 x)) : ∀ j u, ([x].map (Value.int .i64))[j]? = some u → w.cell? ((⟨q, 0, none⟩ : Addr).add j) = some u := fun j u hu => by
  rcases j with _ | j
  · simp at hu; subst hu; simpa [Addr.add] using h
  · simp at hu
theorem size_alloc1 (w : World) (o : Obj) : (w.alloc o).heap.size = w.heap.size + 1 := by simp
/-- the list with a number put in -/
theorem put_spec {L : List Nat} {x k : Nat} (hn : Nums L) (hx : x < 16777216) : ∃ P, Nums P ∧ P.length = L.length + 1 ∧ Hid (cst (L.take k) ++ [(x : Int)] ++ cst (L.drop k) = cst P) := by
  refine ⟨L.take k ++ [x] ++ L.drop k, fun y hy => ?_, ?_, by simp [Hid, cst]⟩
  · rw [List.mem_append, List.mem_append, List.mem_singleton] at hy
    rcases hy with (hy | rfl) | hy
    · exact hn y (List.mem_of_mem_take hy)
    · exact hx
    · exact hn y (List.mem_of_mem_drop hy)
  · rw [List.length_append, List.length_append, List.length_take, List.length_drop]; simp; omega
theorem drop_at (g cap k : Nat) (L : List Nat) (hk : k ≤ (cst L).length) (hc : (cst L).length ≤ cap) : ∃ ofs, (if cap = k then some (⟨g, 0, none⟩ : Addr) else some ⟨g, k, none⟩) = some ⟨g, ofs, none⟩ ∧
    Hid (∀ w : World, GrpAt w g 0 (cst L) → ∀ j u, ((cst (L.drop k)).map (Value.int .i64))[j]? = some u → w.cell? ((⟨g, ofs, none⟩ : Addr).add j) = some u) := by
  by_cases h : cap = k
  · refine ⟨0, by rw [if_pos h], fun w _ j u hu => ?_⟩
    have e : L.drop k = [] := List.drop_eq_nil_of_le (by rw [cst_length] at hc hk; omega)
    rw [e] at hu; simp [cst] at hu
  · exact ⟨k, by rw [if_neg h], fun w hg => news_drop hg k⟩
set_option maxRecDepth 4000 in
set_option maxHeartbeats 2000000 in
theorem l5Put_any (g cap x : Nat) (L : List Nat) (w : World) (hcap : (cst L).length ≤ cap) (hL : L.length ≤ 1048576) (hn : Nums L) (hx : x < 16777216) (hg : GrpAt w g 0 (cst L)) :
    Calls Try.prog 196 #[.slice (some ⟨g, 0, none⟩) (cst L).length cap, .int .i64 (x : Int)] w (Puts w L) := by
  obtain ⟨i0, hi, hz0, hz1, hz2⟩ := info_parts info_int
  have hlen : (cst L).length ≤ 1048576 := by rw [cst_length]; exact hL
  go_enter Try.func196, Try.ntmps196
  go_wp2
  go_loop [5] (fun s => ∃ k : Nat, s = .int .i64 k ∧ k ≤ (cst L).length) (fun s => (intOf s).toNat)
  case atStart => exact ⟨_, rfl, Nat.le_refl _⟩
  case round =>
    obtain ⟨k, rfl, hk⟩ := hrel
    rcases Nat.eq_zero_or_pos k with rfl | hp
    · go_wp2
      have hkl : 0 ≤ (cst L).length := by omega
      have hkc : 0 ≤ cap := by omega
      have hkn : 0 ≤ L.length := by rw [cst_length] at hkl; exact hkl
      have ht1 : (cst (L.take (0))).length = 0 := by rw [cst_length, List.length_take]; omega
      have ht2 : (cst (L.drop (0))).length = (cst L).length - (0) := by rw [cst_length, List.length_drop, cst_length]
      obtain ⟨PL, hp1, hp2, hp3⟩ := put_spec (k := 0) hn hx
      refine wp_region_held_drew (S := fun _ => True) (by kernel_rfl) trivial (fun hHeld => ?_)
      (refine wpAnyH_take (i := 1) (oi := ?oi64) (v := ?v64) ?hi64 (by kernel_rfl) (by kernel_rfl) (by kernel_rfl) ?hq64 ?hy64 (by assumption) ?hr64; (case hi64 => ((simp only [List.getElem?_toArray, List.getElem?_cons_zero, List.getElem?_cons_succ]); exact rfl)); (case hq64 => exact fun _ _ _ h => h); (case hy64 => (refine Or.inl ⟨by rfl, ?_⟩; (intro w hSw); (try dsimp only at hSw); go_simp; (try with_reducible rfl))); (try simp only [Act.put, List.setIfInBounds_toArray, List.set_cons_zero, List.set_cons_succ])); (refine wpAnyH_take (i := 2) (oi := ?oi65) (v := ?v65) ?hi65 (by kernel_rfl) (by kernel_rfl) (by kernel_rfl) ?hq65 ?hy65 (by assumption) ?hr65; (case hi65 => ((simp only [List.getElem?_toArray, List.getElem?_cons_zero, List.getElem?_cons_succ]); exact rfl)); (case hq65 => exact fun _ _ _ h => h); (case hy65 => (refine Or.inl ⟨by rfl, ?_⟩; (intro w hSw); (try dsimp only at hSw); go_simp; (try with_reducible rfl))); (try simp only [Act.put, List.setIfInBounds_toArray, List.set_cons_zero, List.set_cons_succ])); (refine wpAnyH_take (i := 3) (oi := ?oi66) (v := ?v66) ?hi66 (by kernel_rfl) (by kernel_rfl) (by kernel_rfl) ?hq66 ?hy66 (by assumption) ?hr66; (case hi66 => ((simp only [List.getElem?_toArray, List.getElem?_cons_zero, List.getElem?_cons_succ]); exact rfl)); (case hq66 => exact fun _ _ _ h => h); (case hy66 => (refine Or.inl ⟨by rfl, ?_⟩; (intro w hSw); (try dsimp only at hSw); go_simp; (try with_reducible rfl))); (try simp only [Act.put, List.setIfInBounds_toArray, List.set_cons_zero, List.set_cons_succ]))
      (refine wpAnyH_take (i := 5) (oi := ?oi67) (v := ?v67) ?hi67 (by kernel_rfl) (by kernel_rfl) (by kernel_rfl) ?hq67 ?hy67 (by assumption) ?hr67; (case hi67 => ((simp only [List.getElem?_toArray, List.getElem?_cons_zero, List.getElem?_cons_succ]); exact rfl)); (case hq67 => exact fun _ _ _ h => h); (case hy67 => (refine Or.inl ⟨by rfl, ?_⟩; (intro w hSw); (try dsimp only at hSw); go_simp; (try with_reducible rfl))); (try simp only [Act.put, List.setIfInBounds_toArray, List.set_cons_zero, List.set_cons_succ]))
      (refine wpAnyH_take (i := 8) (oi := ?oi68) (v := ?v68) ?hi68 (by kernel_rfl) (by kernel_rfl) (by kernel_rfl) ?hq68 ?hy68 (by assumption) ?hr68; (case hi68 => ((simp only [List.getElem?_toArray, List.getElem?_cons_zero, List.getElem?_cons_succ]); exact rfl)); (case hq68 => exact fun _ _ _ h => h); (case hy68 => (refine Or.inl ⟨by rfl, ?_⟩; (intro w hSw); (try dsimp only at hSw); go_simp; (try with_reducible rfl))); (try simp only [Act.put, List.setIfInBounds_toArray, List.set_cons_zero, List.set_cons_succ])); (refine wpAnyH_take (i := 9) (oi := ?oi69) (v := ?v69) ?hi69 (by kernel_rfl) (by kernel_rfl) (by kernel_rfl) ?hq69 ?hy69 (by assumption) ?hr69; (case hi69 => ((simp only [List.getElem?_toArray, List.getElem?_cons_zero, List.getElem?_cons_succ]); exact rfl)); (case hq69 => exact fun _ _ _ h => h); (case hy69 => (refine Or.inl ⟨by rfl, ?_⟩; (intro w hSw); (try dsimp only at hSw); go_simp; (try with_reducible rfl))); (try simp only [Act.put, List.setIfInBounds_toArray, List.set_cons_zero, List.set_cons_succ])); (refine wpAnyH_take (i := 10) (oi := ?oi70) (v := ?v70) ?hi70 (by kernel_rfl) (by kernel_rfl) (by kernel_rfl) ?hq70 ?hy70 (by assumption) ?hr70; (case hi70 => ((simp only [List.getElem?_toArray, List.getElem?_cons_zero, List.getElem?_cons_succ]); exact rfl)); (case hq70 => exact fun _ _ _ h => h); (case hy70 => (refine Or.inl ⟨by rfl, ?_⟩; (intro w hSw); (try dsimp only at hSw); go_simp; (try with_reducible rfl))); (try simp only [Act.put, List.setIfInBounds_toArray, List.set_cons_zero, List.set_cons_succ]))
      have hb0 : Below w.heap.size w w.drew := (Below.refl _ _).drew
      refine wpAnyH_ready (rs := [0, 6]) (by kernel_rfl) (by simp) ?_
      refine AllReadyH.cons rfl (fun K hK => ?_) (AllReadyH.cons rfl (fun K hK => ?_) AllReadyH.nil)
      · go_simp
        have hG0 := Growing.start (w := w) (w0 := w.drew) hb0 (Nat.le_refl _) #[] rfl
        refine hK.out _ _ ?ks (fun hHeld => ?_); (case ks => (trivial)); clear hK K; (try simp only [Act.put, List.setIfInBounds_toArray, List.set_cons_zero, List.set_cons_succ])
        refine wpAnyH_ready (rs := [4, 6]) (by kernel_rfl) (by simp) ?_
        refine AllReadyH.cons rfl (fun K hK => ?_) (AllReadyH.cons rfl (fun K hK => ?_) AllReadyH.nil)
        · refine step_append_any _ (by rfl) _ _ 24 (by rfl) w.heap.size 3 i0 (.int .i64 0) 1 8 Try.underlying24 hi hz0 hz1 hz2 rfl (by decide) _ _ _ (by rfl) hG0.own ⟨g, 0, none⟩ (0) _ ((cst (L.take (0))).map (Value.int .i64)) (by rfl) (by rw [List.length_map, Nat.mul_one]; exact ht1) (news_take (hg.below hG0.below) (0)) (one_ints _) (by (try simp only [List.length_nil]); simp only [maxLen]; omega) (by (try simp only [List.length_nil]); omega) hG0.below.size ?_
          intro v1 w1 ho1 hgr1 hnl1
          have hG1 := hG0.appM ht1 (by simpa using ho1) hgr1 hnl1
          rw [List.nil_append] at hG1
          clear ho1 hgr1 hnl1
          refine hK.out _ _ ?ks2 (fun hHeld => ?_); (case ks2 => exact trivial); clear hK K
          refine wpAnyH_ready (rs := [6]) (by kernel_rfl) (by simp) ?_
          refine AllReadyH.cons rfl (fun K hK => ?_) AllReadyH.nil
          go_simp
          refine hK.out _ _ ?ks (fun hHeld => ?_); (case ks => (trivial)); clear hK K; (try simp only [Act.put, List.setIfInBounds_toArray, List.set_cons_zero, List.set_cons_succ])
          have hq := box_new w1 (.int .i64 (x : Int)) 3
          have hG1b := hG1.step ((Below.refl _ _).alloc (Nat.le_refl _) (.cells #[.int .i64 (x : Int)] 3))
          refine wpAnyH_ready (rs := [7]) (by kernel_rfl) (by simp) ?_
          refine AllReadyH.cons rfl (fun K hK => ?_) AllReadyH.nil
          refine step_append_any _ (by rfl) _ _ 24 (by rfl) w.heap.size 3 i0 (.int .i64 0) 1 8 Try.underlying24 hi hz0 hz1 hz2 rfl (by decide) _ _ _ (by rfl) hG1b.own ⟨w1.heap.size, 0, none⟩ (1) _ (([(x : Int)]).map (Value.int .i64)) (by rfl) (by rw [List.length_map, Nat.mul_one]; exact rfl) (news_one hq) (one_ints _) (by (try simp only [List.length_nil]); simp only [maxLen]; omega) (by (try simp only [List.length_nil]); omega) hG1b.below.size ?_
          intro v2 w2 ho2 hgr2 hnl2
          have hG2 := hG1b.appM (l2 := [(x : Int)]) rfl ho2 hgr2 hnl2
          clear ho2 hgr2 hnl2
          refine hK.out _ _ ?ks2 (fun hHeld => ?_); (case ks2 => exact trivial); clear hK K
          have hle2 : (cst (L.take (0)) ++ [(x : Int)]).length = 0 + 1 := by rw [List.length_append, ht1]; rfl
          refine wpAnyH_ready (rs := [11]) (by kernel_rfl) (by simp) ?_
          refine AllReadyH.cons rfl (fun K hK => ?_) AllReadyH.nil
          refine step_append_any _ (by rfl) _ _ 24 (by rfl) w.heap.size 3 i0 (.int .i64 0) 1 8 Try.underlying24 hi hz0 hz1 hz2 rfl (by decide) _ _ _ (by rfl) hG2.own ⟨g, 0, none⟩ ((cst L).length - (0)) _ ((cst (L.drop (0))).map (Value.int .i64)) (by rfl) (by rw [List.length_map, Nat.mul_one]; exact ht2) (news_drop (hg.below hG2.below) 0) (one_ints _) (by (try simp only [List.length_nil]); simp only [maxLen]; omega) (by (try simp only [List.length_nil]); omega) hG2.below.size ?_
          intro v3 w3 ho3 hgr3 hnl3
          have hG3 := hG2.appM ht2 ho3 hgr3 hnl3
          rw [hp3.out] at hG3
          clear ho3 hgr3 hnl3
          refine hK.out _ _ ?ks2 (fun hHeld => ?_); (case ks2 => exact trivial); clear hK K
          (refine wpAnyH_take (i := 12) (oi := ?oi71) (v := ?v71) ?hi71 (by kernel_rfl) (by kernel_rfl) (by kernel_rfl) ?hq71 ?hy71 (by assumption) ?hr71; (case hi71 => ((simp only [List.getElem?_toArray, List.getElem?_cons_zero, List.getElem?_cons_succ]); exact rfl)); (case hq71 => exact fun _ _ _ h => h); (case hy71 => (refine Or.inl ⟨by rfl, ?_⟩; (intro w hSw); (try dsimp only at hSw); go_simp; (try with_reducible rfl))))
          refine wpAnyH_done (by kernel_rfl) ?_ _
          obtain ⟨g3, c3, rfl, hm3⟩ := hG3.form
          go_wp2
          go_ret
          exact ⟨g3, c3, PL, rfl, hm3.grp, hp1, hm3.capGe, by omega, by omega, by omega, hm3.below⟩
        · go_simp
          have hq := box_new (w.drew.alloc (.cells #[] 3)) (.int .i64 (x : Int)) 3
          have hG0b := hG0.step ((Below.refl _ _).alloc (Nat.le_refl _) (.cells #[.int .i64 (x : Int)] 3))
          obtain ⟨q, hqe⟩ : ∃ q, Hid ((w.drew.alloc (.cells #[] 3)).heap.size = q) := ⟨_, rfl⟩
          have hqv : q = w.heap.size + 1 := by rw [← hqe.out]; exact size_alloc1 _ _
          rw [hqe.out] at hq
          have hqlt : q < ((w.drew.alloc (.cells #[] 3)).alloc (.cells #[.int .i64 (x : Int)] 3)).heap.size := by rw [size_alloc1, hqe.out]; omega
          refine hK.out _ _ ?ks (fun hHeld => ?_); (case ks => (trivial)); clear hK K; (try simp only [Act.put, List.setIfInBounds_toArray, List.set_cons_zero, List.set_cons_succ])
          refine wpAnyH_ready (rs := [4]) (by kernel_rfl) (by simp) ?_
          refine AllReadyH.cons rfl (fun K hK => ?_) AllReadyH.nil
          refine step_append_any _ (by rfl) _ _ 24 (by rfl) w.heap.size 3 i0 (.int .i64 0) 1 8 Try.underlying24 hi hz0 hz1 hz2 rfl (by decide) _ _ _ (by rfl) hG0b.own ⟨g, 0, none⟩ (0) _ ((cst (L.take (0))).map (Value.int .i64)) (by rfl) (by rw [List.length_map, Nat.mul_one]; exact ht1) (news_take (hg.below hG0b.below) (0)) (one_ints _) (by (try simp only [List.length_nil]); simp only [maxLen]; omega) (by (try simp only [List.length_nil]); omega) hG0b.below.size ?_
          intro v1 w1 ho1 hgr1 hnl1
          have hq1 := (hgr1.cell_far ⟨q, 0, none⟩ hqlt (by simp [Value.ownBlock]; omega)).trans hq
          have hql1 := Nat.lt_of_lt_of_le hqlt hgr1.size
          have hG1 := hG0b.appM ht1 (by simpa using ho1) hgr1 hnl1
          rw [List.nil_append] at hG1
          clear ho1 hgr1 hnl1
          refine hK.out _ _ ?ks2 (fun hHeld => ?_); (case ks2 => exact trivial); clear hK K
          refine wpAnyH_ready (rs := [7]) (by kernel_rfl) (by simp) ?_
          refine AllReadyH.cons rfl (fun K hK => ?_) AllReadyH.nil
          subst hqv
          refine step_append_any _ (by rfl) _ _ 24 (by rfl) w.heap.size 3 i0 (.int .i64 0) 1 8 Try.underlying24 hi hz0 hz1 hz2 rfl (by decide) _ _ _ (by rfl) hG1.own ⟨(w.heap.size + 1), 0, none⟩ (1) _ (([(x : Int)]).map (Value.int .i64)) (by rfl) (by rw [List.length_map, Nat.mul_one]; exact rfl) (news_one hq1) (one_ints _) (by (try simp only [List.length_nil]); simp only [maxLen]; omega) (by (try simp only [List.length_nil]); omega) hG1.below.size ?_
          intro v2 w2 ho2 hgr2 hnl2
          have hG2 := hG1.appM (l2 := [(x : Int)]) rfl ho2 hgr2 hnl2
          clear ho2 hgr2 hnl2
          refine hK.out _ _ ?ks2 (fun hHeld => ?_); (case ks2 => exact trivial); clear hK K
          have hle2 : (cst (L.take (0)) ++ [(x : Int)]).length = 0 + 1 := by rw [List.length_append, ht1]; rfl
          refine wpAnyH_ready (rs := [11]) (by kernel_rfl) (by simp) ?_
          refine AllReadyH.cons rfl (fun K hK => ?_) AllReadyH.nil
          refine step_append_any _ (by rfl) _ _ 24 (by rfl) w.heap.size 3 i0 (.int .i64 0) 1 8 Try.underlying24 hi hz0 hz1 hz2 rfl (by decide) _ _ _ (by rfl) hG2.own ⟨g, 0, none⟩ ((cst L).length - (0)) _ ((cst (L.drop (0))).map (Value.int .i64)) (by rfl) (by rw [List.length_map, Nat.mul_one]; exact ht2) (news_drop (hg.below hG2.below) 0) (one_ints _) (by (try simp only [List.length_nil]); simp only [maxLen]; omega) (by (try simp only [List.length_nil]); omega) hG2.below.size ?_
          intro v3 w3 ho3 hgr3 hnl3
          have hG3 := hG2.appM ht2 ho3 hgr3 hnl3
          rw [hp3.out] at hG3
          clear ho3 hgr3 hnl3
          refine hK.out _ _ ?ks2 (fun hHeld => ?_); (case ks2 => exact trivial); clear hK K
          (refine wpAnyH_take (i := 12) (oi := ?oi72) (v := ?v72) ?hi72 (by kernel_rfl) (by kernel_rfl) (by kernel_rfl) ?hq72 ?hy72 (by assumption) ?hr72; (case hi72 => ((simp only [List.getElem?_toArray, List.getElem?_cons_zero, List.getElem?_cons_succ]); exact rfl)); (case hq72 => exact fun _ _ _ h => h); (case hy72 => (refine Or.inl ⟨by rfl, ?_⟩; (intro w hSw); (try dsimp only at hSw); go_simp; (try with_reducible rfl))))
          refine wpAnyH_done (by kernel_rfl) ?_ _
          obtain ⟨g3, c3, rfl, hm3⟩ := hG3.form
          go_wp2
          go_ret
          exact ⟨g3, c3, PL, rfl, hm3.grp, hp1, hm3.capGe, by omega, by omega, by omega, hm3.below⟩
      · go_simp
        have hq := box_new w.drew (.int .i64 (x : Int)) 3
        have hb1 := hb0.alloc (Nat.le_refl _) (.cells #[.int .i64 (x : Int)] 3)
        have hqlt0 : w.heap.size < (w.drew.alloc (.cells #[.int .i64 (x : Int)] 3)).heap.size := by rw [size_alloc1]; exact Nat.lt_succ_self _
        refine hK.out _ _ ?ks (fun hHeld => ?_); (case ks => (trivial)); clear hK K; (try simp only [Act.put, List.setIfInBounds_toArray, List.set_cons_zero, List.set_cons_succ])
        refine wpAnyH_ready (rs := [0]) (by kernel_rfl) (by simp) ?_
        refine AllReadyH.cons rfl (fun K hK => ?_) AllReadyH.nil
        go_simp
        have hG0 : Growing w [] (.slice (some ⟨w.heap.size + 1, 0, none⟩) 0 0) _ := (congrArg (fun z => Growing w [] (.slice (some ⟨z, 0, none⟩) 0 0) _) (size_alloc1 w.drew _)).mp (Growing.start (w := w) (w0 := w.drew.alloc (.cells #[.int .i64 (x : Int)] 3)) hb1 hb1.size #[] rfl)
        have hqb := cell_alloc hq hqlt0 (.cells #[] 3)
        refine hK.out _ _ ?ks (fun hHeld => ?_); (case ks => (trivial)); clear hK K; (try simp only [Act.put, List.setIfInBounds_toArray, List.set_cons_zero, List.set_cons_succ])
        refine wpAnyH_ready (rs := [4]) (by kernel_rfl) (by simp) ?_
        refine AllReadyH.cons rfl (fun K hK => ?_) AllReadyH.nil
        obtain ⟨q, hqv⟩ : ∃ q, q = w.heap.size := ⟨_, rfl⟩
        have hq : ((w.drew.alloc (.cells #[.int .i64 (x : Int)] 3)).alloc (.cells #[] 3)).cell? ⟨q, 0, none⟩ = some (.int .i64 (x : Int)) := by rw [hqv]; exact hqb
        have hqlt : q < ((w.drew.alloc (.cells #[.int .i64 (x : Int)] 3)).alloc (.cells #[] 3)).heap.size := by rw [hqv, size_alloc1]; omega
        refine step_append_any _ (by rfl) _ _ 24 (by rfl) w.heap.size 3 i0 (.int .i64 0) 1 8 Try.underlying24 hi hz0 hz1 hz2 rfl (by decide) _ _ _ (by rfl) hG0.own ⟨g, 0, none⟩ (0) _ ((cst (L.take (0))).map (Value.int .i64)) (by rfl) (by rw [List.length_map, Nat.mul_one]; exact ht1) (news_take (hg.below hG0.below) (0)) (one_ints _) (by (try simp only [List.length_nil]); simp only [maxLen]; omega) (by (try simp only [List.length_nil]); omega) hG0.below.size ?_
        intro v1 w1 ho1 hgr1 hnl1
        have hq1 := (hgr1.cell_far ⟨q, 0, none⟩ hqlt (by simp [Value.ownBlock]; omega)).trans hq
        have hql1 := Nat.lt_of_lt_of_le hqlt hgr1.size
        have hG1 := hG0.appM ht1 (by simpa using ho1) hgr1 hnl1
        rw [List.nil_append] at hG1
        clear ho1 hgr1 hnl1
        refine hK.out _ _ ?ks2 (fun hHeld => ?_); (case ks2 => exact trivial); clear hK K
        refine wpAnyH_ready (rs := [7]) (by kernel_rfl) (by simp) ?_
        refine AllReadyH.cons rfl (fun K hK => ?_) AllReadyH.nil
        subst hqv
        refine step_append_any _ (by rfl) _ _ 24 (by rfl) w.heap.size 3 i0 (.int .i64 0) 1 8 Try.underlying24 hi hz0 hz1 hz2 rfl (by decide) _ _ _ (by rfl) hG1.own ⟨w.heap.size, 0, none⟩ (1) _ (([(x : Int)]).map (Value.int .i64)) (by rfl) (by rw [List.length_map, Nat.mul_one]; exact rfl) (news_one hq1) (one_ints _) (by (try simp only [List.length_nil]); simp only [maxLen]; omega) (by (try simp only [List.length_nil]); omega) hG1.below.size ?_
        intro v2 w2 ho2 hgr2 hnl2
        have hG2 := hG1.appM (l2 := [(x : Int)]) rfl ho2 hgr2 hnl2
        clear ho2 hgr2 hnl2
        refine hK.out _ _ ?ks2 (fun hHeld => ?_); (case ks2 => exact trivial); clear hK K
        have hle2 : (cst (L.take (0)) ++ [(x : Int)]).length = 0 + 1 := by rw [List.length_append, ht1]; rfl
        refine wpAnyH_ready (rs := [11]) (by kernel_rfl) (by simp) ?_
        refine AllReadyH.cons rfl (fun K hK => ?_) AllReadyH.nil
        refine step_append_any _ (by rfl) _ _ 24 (by rfl) w.heap.size 3 i0 (.int .i64 0) 1 8 Try.underlying24 hi hz0 hz1 hz2 rfl (by decide) _ _ _ (by rfl) hG2.own ⟨g, 0, none⟩ ((cst L).length - (0)) _ ((cst (L.drop (0))).map (Value.int .i64)) (by rfl) (by rw [List.length_map, Nat.mul_one]; exact ht2) (news_drop (hg.below hG2.below) 0) (one_ints _) (by (try simp only [List.length_nil]); simp only [maxLen]; omega) (by (try simp only [List.length_nil]); omega) hG2.below.size ?_
        intro v3 w3 ho3 hgr3 hnl3
        have hG3 := hG2.appM ht2 ho3 hgr3 hnl3
        rw [hp3.out] at hG3
        clear ho3 hgr3 hnl3
        refine hK.out _ _ ?ks2 (fun hHeld => ?_); (case ks2 => exact trivial); clear hK K
        (refine wpAnyH_take (i := 12) (oi := ?oi73) (v := ?v73) ?hi73 (by kernel_rfl) (by kernel_rfl) (by kernel_rfl) ?hq73 ?hy73 (by assumption) ?hr73; (case hi73 => ((simp only [List.getElem?_toArray, List.getElem?_cons_zero, List.getElem?_cons_succ]); exact rfl)); (case hq73 => exact fun _ _ _ h => h); (case hy73 => (refine Or.inl ⟨by rfl, ?_⟩; (intro w hSw); (try dsimp only at hSw); go_simp; (try with_reducible rfl))))
        refine wpAnyH_done (by kernel_rfl) ?_ _
        obtain ⟨g3, c3, rfl, hm3⟩ := hG3.form
        go_wp2
        go_ret
        exact ⟨g3, c3, PL, rfl, hm3.grp, hp1, hm3.capGe, by omega, by omega, by omega, hm3.below⟩
    · obtain ⟨j, rfl⟩ : ∃ j, k = j + 1 := ⟨k - 1, by omega⟩
      have hc := hg.nat0 j (by omega)
      obtain ⟨y, hy0⟩ : ∃ y, Hid (L.getD j 0 = y) := ⟨_, rfl⟩
      rw [hy0.out] at hc
      by_cases hy : x < y
      · go_wp2
        go_round
        case rel => exact ⟨j, by go_num, by omega⟩
        case measure => simp [intOf]
      · by_cases hyx : y = x
        · subst hyx
          go_wp2
          go_ret
          exact ⟨g, cap, L, rfl, hg, hn, hcap, Nat.le_refl _, by rw [cst_length] at hk; omega, by omega, Below.refl _ _⟩
        · have hb : ((y : Int) == (x : Int)) = false := by rw [beq_eq_false_iff_ne]; omega
          go_wp2
          have hkl : j + 1 ≤ (cst L).length := by omega
          have hkc : j + 1 ≤ cap := by omega
          have hi1 : ((j : Int) + 1) ≤ (cap : Int) := by omega
          have hi2 : (0 : Int) ≤ ((j : Int) + 1) := by omega
          have hi3 : ((j : Int) + 1) ≤ ((cst L).length : Int) := by omega
          have hkn : j + 1 ≤ L.length := by rw [cst_length] at hkl; exact hkl
          have ht1 : (cst (L.take (j + 1))).length = j + 1 := by rw [cst_length, List.length_take]; omega
          have ht2 : (cst (L.drop (j + 1))).length = (cst L).length - (j + 1) := by rw [cst_length, List.length_drop, cst_length]
          obtain ⟨PL, hp1, hp2, hp3⟩ := put_spec (k := j + 1) hn hx
          obtain ⟨ofs, hof, hdr⟩ := drop_at g cap (j + 1) L hkl hcap
          refine wp_region_held_drew (S := fun _ => True) (by kernel_rfl) trivial (fun hHeld => ?_)
          (refine wpAnyH_take (i := 1) (oi := ?oi74) (v := ?v74) ?hi74 (by kernel_rfl) (by kernel_rfl) (by kernel_rfl) ?hq74 ?hy74 (by assumption) ?hr74; (case hi74 => ((simp only [List.getElem?_toArray, List.getElem?_cons_zero, List.getElem?_cons_succ]); exact rfl)); (case hq74 => exact fun _ _ _ h => h); (case hy74 => (refine Or.inl ⟨by rfl, ?_⟩; (intro w hSw); (try dsimp only at hSw); go_simp; (try with_reducible rfl))); (try simp only [Act.put, List.setIfInBounds_toArray, List.set_cons_zero, List.set_cons_succ])); (refine wpAnyH_take (i := 2) (oi := ?oi75) (v := ?v75) ?hi75 (by kernel_rfl) (by kernel_rfl) (by kernel_rfl) ?hq75 ?hy75 (by assumption) ?hr75; (case hi75 => ((simp only [List.getElem?_toArray, List.getElem?_cons_zero, List.getElem?_cons_succ]); exact rfl)); (case hq75 => exact fun _ _ _ h => h); (case hy75 => (refine Or.inl ⟨by rfl, ?_⟩; (intro w hSw); (try dsimp only at hSw); go_simp; (try with_reducible rfl))); (try simp only [Act.put, List.setIfInBounds_toArray, List.set_cons_zero, List.set_cons_succ])); (refine wpAnyH_take (i := 3) (oi := ?oi76) (v := ?v76) ?hi76 (by kernel_rfl) (by kernel_rfl) (by kernel_rfl) ?hq76 ?hy76 (by assumption) ?hr76; (case hi76 => ((simp only [List.getElem?_toArray, List.getElem?_cons_zero, List.getElem?_cons_succ]); exact rfl)); (case hq76 => exact fun _ _ _ h => h); (case hy76 => (refine Or.inl ⟨by rfl, ?_⟩; (intro w hSw); (try dsimp only at hSw); go_simp; (try with_reducible rfl))); (try simp only [Act.put, List.setIfInBounds_toArray, List.set_cons_zero, List.set_cons_succ]))
          (refine wpAnyH_take (i := 5) (oi := ?oi77) (v := ?v77) ?hi77 (by kernel_rfl) (by kernel_rfl) (by kernel_rfl) ?hq77 ?hy77 (by assumption) ?hr77; (case hi77 => ((simp only [List.getElem?_toArray, List.getElem?_cons_zero, List.getElem?_cons_succ]); exact rfl)); (case hq77 => exact fun _ _ _ h => h); (case hy77 => (refine Or.inl ⟨by rfl, ?_⟩; (intro w hSw); (try dsimp only at hSw); go_simp; (try with_reducible rfl))); (try simp only [Act.put, List.setIfInBounds_toArray, List.set_cons_zero, List.set_cons_succ]))
          (refine wpAnyH_take (i := 8) (oi := ?oi78) (v := ?v78) ?hi78 (by kernel_rfl) (by kernel_rfl) (by kernel_rfl) ?hq78 ?hy78 (by assumption) ?hr78; (case hi78 => ((simp only [List.getElem?_toArray, List.getElem?_cons_zero, List.getElem?_cons_succ]); exact rfl)); (case hq78 => exact fun _ _ _ h => h); (case hy78 => (refine Or.inl ⟨by rfl, ?_⟩; (intro w hSw); (try dsimp only at hSw); go_simp; (try with_reducible rfl))); (try simp only [Act.put, List.setIfInBounds_toArray, List.set_cons_zero, List.set_cons_succ])); (refine wpAnyH_take (i := 9) (oi := ?oi79) (v := ?v79) ?hi79 (by kernel_rfl) (by kernel_rfl) (by kernel_rfl) ?hq79 ?hy79 (by assumption) ?hr79; (case hi79 => ((simp only [List.getElem?_toArray, List.getElem?_cons_zero, List.getElem?_cons_succ]); exact rfl)); (case hq79 => exact fun _ _ _ h => h); (case hy79 => (refine Or.inl ⟨by rfl, ?_⟩; (intro w hSw); (try dsimp only at hSw); go_simp; (try with_reducible rfl))); (try simp only [Act.put, List.setIfInBounds_toArray, List.set_cons_zero, List.set_cons_succ])); (refine wpAnyH_take (i := 10) (oi := ?oi80) (v := ?v80) ?hi80 (by kernel_rfl) (by kernel_rfl) (by kernel_rfl) ?hq80 ?hy80 (by assumption) ?hr80; (case hi80 => ((simp only [List.getElem?_toArray, List.getElem?_cons_zero, List.getElem?_cons_succ]); exact rfl)); (case hq80 => exact fun _ _ _ h => h); (case hy80 => (refine Or.inl ⟨by rfl, ?_⟩; (intro w hSw); (try dsimp only at hSw); go_simp; (try with_reducible rfl))); (try simp only [Act.put, List.setIfInBounds_toArray, List.set_cons_zero, List.set_cons_succ]))
          have hb0 : Below w.heap.size w w.drew := (Below.refl _ _).drew
          refine wpAnyH_ready (rs := [0, 6]) (by kernel_rfl) (by simp) ?_
          refine AllReadyH.cons rfl (fun K hK => ?_) (AllReadyH.cons rfl (fun K hK => ?_) AllReadyH.nil)
          · go_simp
            have hG0 := Growing.start (w := w) (w0 := w.drew) hb0 (Nat.le_refl _) #[] rfl
            refine hK.out _ _ ?ks (fun hHeld => ?_); (case ks => (trivial)); clear hK K; (try simp only [Act.put, List.setIfInBounds_toArray, List.set_cons_zero, List.set_cons_succ])
            refine wpAnyH_ready (rs := [4, 6]) (by kernel_rfl) (by simp) ?_
            refine AllReadyH.cons rfl (fun K hK => ?_) (AllReadyH.cons rfl (fun K hK => ?_) AllReadyH.nil)
            · refine step_append_any _ (by rfl) _ _ 24 (by rfl) w.heap.size 3 i0 (.int .i64 0) 1 8 Try.underlying24 hi hz0 hz1 hz2 rfl (by decide) _ _ _ (by rfl) hG0.own ⟨g, 0, none⟩ (j + 1) _ ((cst (L.take (j + 1))).map (Value.int .i64)) (by rfl) (by rw [List.length_map, Nat.mul_one]; exact ht1) (news_take (hg.below hG0.below) (j + 1)) (one_ints _) (by (try simp only [List.length_nil]); simp only [maxLen]; omega) (by (try simp only [List.length_nil]); omega) hG0.below.size ?_
              intro v1 w1 ho1 hgr1 hnl1
              have hG1 := hG0.appM ht1 (by simpa using ho1) hgr1 hnl1
              rw [List.nil_append] at hG1
              clear ho1 hgr1 hnl1
              refine hK.out _ _ ?ks2 (fun hHeld => ?_); (case ks2 => exact trivial); clear hK K
              refine wpAnyH_ready (rs := [6]) (by kernel_rfl) (by simp) ?_
              refine AllReadyH.cons rfl (fun K hK => ?_) AllReadyH.nil
              go_simp
              refine hK.out _ _ ?ks (fun hHeld => ?_); (case ks => (trivial)); clear hK K; (try simp only [Act.put, List.setIfInBounds_toArray, List.set_cons_zero, List.set_cons_succ])
              have hq := box_new w1 (.int .i64 (x : Int)) 3
              have hG1b := hG1.step ((Below.refl _ _).alloc (Nat.le_refl _) (.cells #[.int .i64 (x : Int)] 3))
              refine wpAnyH_ready (rs := [7]) (by kernel_rfl) (by simp) ?_
              refine AllReadyH.cons rfl (fun K hK => ?_) AllReadyH.nil
              refine step_append_any _ (by rfl) _ _ 24 (by rfl) w.heap.size 3 i0 (.int .i64 0) 1 8 Try.underlying24 hi hz0 hz1 hz2 rfl (by decide) _ _ _ (by rfl) hG1b.own ⟨w1.heap.size, 0, none⟩ (1) _ (([(x : Int)]).map (Value.int .i64)) (by rfl) (by rw [List.length_map, Nat.mul_one]; exact rfl) (news_one hq) (one_ints _) (by (try simp only [List.length_nil]); simp only [maxLen]; omega) (by (try simp only [List.length_nil]); omega) hG1b.below.size ?_
              intro v2 w2 ho2 hgr2 hnl2
              have hG2 := hG1b.appM (l2 := [(x : Int)]) rfl ho2 hgr2 hnl2
              clear ho2 hgr2 hnl2
              refine hK.out _ _ ?ks2 (fun hHeld => ?_); (case ks2 => exact trivial); clear hK K
              have hle2 : (cst (L.take (j + 1)) ++ [(x : Int)]).length = j + 1 + 1 := by rw [List.length_append, ht1]; rfl
              refine wpAnyH_ready (rs := [11]) (by kernel_rfl) (by simp) ?_
              refine AllReadyH.cons rfl (fun K hK => ?_) AllReadyH.nil
              refine step_append_any _ (by rfl) _ _ 24 (by rfl) w.heap.size 3 i0 (.int .i64 0) 1 8 Try.underlying24 hi hz0 hz1 hz2 rfl (by decide) _ _ _ (by rfl) hG2.own ⟨g, ofs, none⟩ ((cst L).length - (j + 1)) _ ((cst (L.drop (j + 1))).map (Value.int .i64)) (by rfl) (by rw [List.length_map, Nat.mul_one]; exact ht2) (hdr.out _ (hg.below hG2.below)) (one_ints _) (by (try simp only [List.length_nil]); simp only [maxLen]; omega) (by (try simp only [List.length_nil]); omega) hG2.below.size ?_
              intro v3 w3 ho3 hgr3 hnl3
              have hG3 := hG2.appM ht2 ho3 hgr3 hnl3
              rw [hp3.out] at hG3
              clear ho3 hgr3 hnl3
              refine hK.out _ _ ?ks2 (fun hHeld => ?_); (case ks2 => exact trivial); clear hK K
              (refine wpAnyH_take (i := 12) (oi := ?oi81) (v := ?v81) ?hi81 (by kernel_rfl) (by kernel_rfl) (by kernel_rfl) ?hq81 ?hy81 (by assumption) ?hr81; (case hi81 => ((simp only [List.getElem?_toArray, List.getElem?_cons_zero, List.getElem?_cons_succ]); exact rfl)); (case hq81 => exact fun _ _ _ h => h); (case hy81 => (refine Or.inl ⟨by rfl, ?_⟩; (intro w hSw); (try dsimp only at hSw); go_simp; (try with_reducible rfl))))
              refine wpAnyH_done (by kernel_rfl) ?_ _
              obtain ⟨g3, c3, rfl, hm3⟩ := hG3.form
              go_wp2
              go_ret
              exact ⟨g3, c3, PL, rfl, hm3.grp, hp1, hm3.capGe, by omega, by omega, by omega, hm3.below⟩
            · go_simp
              have hq := box_new (w.drew.alloc (.cells #[] 3)) (.int .i64 (x : Int)) 3
              have hG0b := hG0.step ((Below.refl _ _).alloc (Nat.le_refl _) (.cells #[.int .i64 (x : Int)] 3))
              obtain ⟨q, hqe⟩ : ∃ q, Hid ((w.drew.alloc (.cells #[] 3)).heap.size = q) := ⟨_, rfl⟩
              have hqv : q = w.heap.size + 1 := by rw [← hqe.out]; exact size_alloc1 _ _
              rw [hqe.out] at hq
              have hqlt : q < ((w.drew.alloc (.cells #[] 3)).alloc (.cells #[.int .i64 (x : Int)] 3)).heap.size := by rw [size_alloc1, hqe.out]; omega
              refine hK.out _ _ ?ks (fun hHeld => ?_); (case ks => (trivial)); clear hK K; (try simp only [Act.put, List.setIfInBounds_toArray, List.set_cons_zero, List.set_cons_succ])
              refine wpAnyH_ready (rs := [4]) (by kernel_rfl) (by simp) ?_
              refine AllReadyH.cons rfl (fun K hK => ?_) AllReadyH.nil
              refine step_append_any _ (by rfl) _ _ 24 (by rfl) w.heap.size 3 i0 (.int .i64 0) 1 8 Try.underlying24 hi hz0 hz1 hz2 rfl (by decide) _ _ _ (by rfl) hG0b.own ⟨g, 0, none⟩ (j + 1) _ ((cst (L.take (j + 1))).map (Value.int .i64)) (by rfl) (by rw [List.length_map, Nat.mul_one]; exact ht1) (news_take (hg.below hG0b.below) (j + 1)) (one_ints _) (by (try simp only [List.length_nil]); simp only [maxLen]; omega) (by (try simp only [List.length_nil]); omega) hG0b.below.size ?_
              intro v1 w1 ho1 hgr1 hnl1
              have hq1 := (hgr1.cell_far ⟨q, 0, none⟩ hqlt (by simp [Value.ownBlock]; omega)).trans hq
              have hql1 := Nat.lt_of_lt_of_le hqlt hgr1.size
              have hG1 := hG0b.appM ht1 (by simpa using ho1) hgr1 hnl1
              rw [List.nil_append] at hG1
              clear ho1 hgr1 hnl1
              refine hK.out _ _ ?ks2 (fun hHeld => ?_); (case ks2 => exact trivial); clear hK K
              refine wpAnyH_ready (rs := [7]) (by kernel_rfl) (by simp) ?_
              refine AllReadyH.cons rfl (fun K hK => ?_) AllReadyH.nil
              subst hqv
              refine step_append_any _ (by rfl) _ _ 24 (by rfl) w.heap.size 3 i0 (.int .i64 0) 1 8 Try.underlying24 hi hz0 hz1 hz2 rfl (by decide) _ _ _ (by rfl) hG1.own ⟨(w.heap.size + 1), 0, none⟩ (1) _ (([(x : Int)]).map (Value.int .i64)) (by rfl) (by rw [List.length_map, Nat.mul_one]; exact rfl) (news_one hq1) (one_ints _) (by (try simp only [List.length_nil]); simp only [maxLen]; omega) (by (try simp only [List.length_nil]); omega) hG1.below.size ?_
              intro v2 w2 ho2 hgr2 hnl2
              have hG2 := hG1.appM (l2 := [(x : Int)]) rfl ho2 hgr2 hnl2
              clear ho2 hgr2 hnl2
              refine hK.out _ _ ?ks2 (fun hHeld => ?_); (case ks2 => exact trivial); clear hK K
              have hle2 : (cst (L.take (j + 1)) ++ [(x : Int)]).length = j + 1 + 1 := by rw [List.length_append, ht1]; rfl
              refine wpAnyH_ready (rs := [11]) (by kernel_rfl) (by simp) ?_
              refine AllReadyH.cons rfl (fun K hK => ?_) AllReadyH.nil
              refine step_append_any _ (by rfl) _ _ 24 (by rfl) w.heap.size 3 i0 (.int .i64 0) 1 8 Try.underlying24 hi hz0 hz1 hz2 rfl (by decide) _ _ _ (by rfl) hG2.own ⟨g, ofs, none⟩ ((cst L).length - (j + 1)) _ ((cst (L.drop (j + 1))).map (Value.int .i64)) (by rfl) (by rw [List.length_map, Nat.mul_one]; exact ht2) (hdr.out _ (hg.below hG2.below)) (one_ints _) (by (try simp only [List.length_nil]); simp only [maxLen]; omega) (by (try simp only [List.length_nil]); omega) hG2.below.size ?_
              intro v3 w3 ho3 hgr3 hnl3
              have hG3 := hG2.appM ht2 ho3 hgr3 hnl3
              rw [hp3.out] at hG3
              clear ho3 hgr3 hnl3
              refine hK.out _ _ ?ks2 (fun hHeld => ?_); (case ks2 => exact trivial); clear hK K
              (refine wpAnyH_take (i := 12) (oi := ?oi82) (v := ?v82) ?hi82 (by kernel_rfl) (by kernel_rfl) (by kernel_rfl) ?hq82 ?hy82 (by assumption) ?hr82; (case hi82 => ((simp only [List.getElem?_toArray, List.getElem?_cons_zero, List.getElem?_cons_succ]); exact rfl)); (case hq82 => exact fun _ _ _ h => h); (case hy82 => (refine Or.inl ⟨by rfl, ?_⟩; (intro w hSw); (try dsimp only at hSw); go_simp; (try with_reducible rfl))))
              refine wpAnyH_done (by kernel_rfl) ?_ _
              obtain ⟨g3, c3, rfl, hm3⟩ := hG3.form
              go_wp2
              go_ret
              exact ⟨g3, c3, PL, rfl, hm3.grp, hp1, hm3.capGe, by omega, by omega, by omega, hm3.below⟩
          · go_simp
            have hq := box_new w.drew (.int .i64 (x : Int)) 3
            have hb1 := hb0.alloc (Nat.le_refl _) (.cells #[.int .i64 (x : Int)] 3)
            have hqlt0 : w.heap.size < (w.drew.alloc (.cells #[.int .i64 (x : Int)] 3)).heap.size := by rw [size_alloc1]; exact Nat.lt_succ_self _
            refine hK.out _ _ ?ks (fun hHeld => ?_); (case ks => (trivial)); clear hK K; (try simp only [Act.put, List.setIfInBounds_toArray, List.set_cons_zero, List.set_cons_succ])
            refine wpAnyH_ready (rs := [0]) (by kernel_rfl) (by simp) ?_
            refine AllReadyH.cons rfl (fun K hK => ?_) AllReadyH.nil
            go_simp
            have hG0 : Growing w [] (.slice (some ⟨w.heap.size + 1, 0, none⟩) 0 0) _ := (congrArg (fun z => Growing w [] (.slice (some ⟨z, 0, none⟩) 0 0) _) (size_alloc1 w.drew _)).mp (Growing.start (w := w) (w0 := w.drew.alloc (.cells #[.int .i64 (x : Int)] 3)) hb1 hb1.size #[] rfl)
            have hqb := cell_alloc hq hqlt0 (.cells #[] 3)
            refine hK.out _ _ ?ks (fun hHeld => ?_); (case ks => (trivial)); clear hK K; (try simp only [Act.put, List.setIfInBounds_toArray, List.set_cons_zero, List.set_cons_succ])
            refine wpAnyH_ready (rs := [4]) (by kernel_rfl) (by simp) ?_
            refine AllReadyH.cons rfl (fun K hK => ?_) AllReadyH.nil
            obtain ⟨q, hqv⟩ : ∃ q, q = w.heap.size := ⟨_, rfl⟩
            have hq : ((w.drew.alloc (.cells #[.int .i64 (x : Int)] 3)).alloc (.cells #[] 3)).cell? ⟨q, 0, none⟩ = some (.int .i64 (x : Int)) := by rw [hqv]; exact hqb
            have hqlt : q < ((w.drew.alloc (.cells #[.int .i64 (x : Int)] 3)).alloc (.cells #[] 3)).heap.size := by rw [hqv, size_alloc1]; omega
            refine step_append_any _ (by rfl) _ _ 24 (by rfl) w.heap.size 3 i0 (.int .i64 0) 1 8 Try.underlying24 hi hz0 hz1 hz2 rfl (by decide) _ _ _ (by rfl) hG0.own ⟨g, 0, none⟩ (j + 1) _ ((cst (L.take (j + 1))).map (Value.int .i64)) (by rfl) (by rw [List.length_map, Nat.mul_one]; exact ht1) (news_take (hg.below hG0.below) (j + 1)) (one_ints _) (by (try simp only [List.length_nil]); simp only [maxLen]; omega) (by (try simp only [List.length_nil]); omega) hG0.below.size ?_
            intro v1 w1 ho1 hgr1 hnl1
            have hq1 := (hgr1.cell_far ⟨q, 0, none⟩ hqlt (by simp [Value.ownBlock]; omega)).trans hq
            have hql1 := Nat.lt_of_lt_of_le hqlt hgr1.size
            have hG1 := hG0.appM ht1 (by simpa using ho1) hgr1 hnl1
            rw [List.nil_append] at hG1
            clear ho1 hgr1 hnl1
            refine hK.out _ _ ?ks2 (fun hHeld => ?_); (case ks2 => exact trivial); clear hK K
            refine wpAnyH_ready (rs := [7]) (by kernel_rfl) (by simp) ?_
            refine AllReadyH.cons rfl (fun K hK => ?_) AllReadyH.nil
            subst hqv
            refine step_append_any _ (by rfl) _ _ 24 (by rfl) w.heap.size 3 i0 (.int .i64 0) 1 8 Try.underlying24 hi hz0 hz1 hz2 rfl (by decide) _ _ _ (by rfl) hG1.own ⟨w.heap.size, 0, none⟩ (1) _ (([(x : Int)]).map (Value.int .i64)) (by rfl) (by rw [List.length_map, Nat.mul_one]; exact rfl) (news_one hq1) (one_ints _) (by (try simp only [List.length_nil]); simp only [maxLen]; omega) (by (try simp only [List.length_nil]); omega) hG1.below.size ?_
            intro v2 w2 ho2 hgr2 hnl2
            have hG2 := hG1.appM (l2 := [(x : Int)]) rfl ho2 hgr2 hnl2
            clear ho2 hgr2 hnl2
            refine hK.out _ _ ?ks2 (fun hHeld => ?_); (case ks2 => exact trivial); clear hK K
            have hle2 : (cst (L.take (j + 1)) ++ [(x : Int)]).length = j + 1 + 1 := by rw [List.length_append, ht1]; rfl
            refine wpAnyH_ready (rs := [11]) (by kernel_rfl) (by simp) ?_
            refine AllReadyH.cons rfl (fun K hK => ?_) AllReadyH.nil
            refine step_append_any _ (by rfl) _ _ 24 (by rfl) w.heap.size 3 i0 (.int .i64 0) 1 8 Try.underlying24 hi hz0 hz1 hz2 rfl (by decide) _ _ _ (by rfl) hG2.own ⟨g, ofs, none⟩ ((cst L).length - (j + 1)) _ ((cst (L.drop (j + 1))).map (Value.int .i64)) (by rfl) (by rw [List.length_map, Nat.mul_one]; exact ht2) (hdr.out _ (hg.below hG2.below)) (one_ints _) (by (try simp only [List.length_nil]); simp only [maxLen]; omega) (by (try simp only [List.length_nil]); omega) hG2.below.size ?_
            intro v3 w3 ho3 hgr3 hnl3
            have hG3 := hG2.appM ht2 ho3 hgr3 hnl3
            rw [hp3.out] at hG3
            clear ho3 hgr3 hnl3
            refine hK.out _ _ ?ks2 (fun hHeld => ?_); (case ks2 => exact trivial); clear hK K
            (refine wpAnyH_take (i := 12) (oi := ?oi83) (v := ?v83) ?hi83 (by kernel_rfl) (by kernel_rfl) (by kernel_rfl) ?hq83 ?hy83 (by assumption) ?hr83; (case hi83 => ((simp only [List.getElem?_toArray, List.getElem?_cons_zero, List.getElem?_cons_succ]); exact rfl)); (case hq83 => exact fun _ _ _ h => h); (case hy83 => (refine Or.inl ⟨by rfl, ?_⟩; (intro w hSw); (try dsimp only at hSw); go_simp; (try with_reducible rfl))))
            refine wpAnyH_done (by kernel_rfl) ?_ _
            obtain ⟨g3, c3, rfl, hm3⟩ := hG3.form
            go_wp2
            go_ret
            exact ⟨g3, c3, PL, rfl, hm3.grp, hp1, hm3.capGe, by omega, by omega, by omega, hm3.below⟩
end Go.Proofs.Ytpflnmcecnbilaa
