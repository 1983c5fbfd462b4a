/-
  The map of Ruzsa's triangle in the program: the key's law.
-/
import Derived.Test.YtpflnmcecnbilaaTri
import Derived.Maps.OwnSet
import Derived.Maps.OwnOps
import Derived.DeepKeys4
import Derived.WideKeyPair
namespace Go.Proofs.Ytpflnmcecnbilaa
open Go.RowKit Go.ChangeShapes Go.WideShapes Go.WideMaps
theorem tri_laidOut : laidOutB Try.prog = true := by kernel_rfl
theorem tri_row : (84 : TypeId) < Try.prog.types.size := of_decide_eq_true (by kernel_rfl)
theorem tri_wide : (match Try.prog.underlying 84 with | some (.array _ _) | some (.struct _) => true | _ => false) = true := by rw [Try.underlying84]
theorem tri_keyed : Maps.Keyed Try.prog 84 := Maps.Keyed.of_law (deep_law_laid tri_laidOut (m := 2) (by omega) tri_row (by kernel_rfl) tri_wide)
theorem tri_arr : ArrKey Try.prog 84 3 2 := ⟨Try.underlying84, by kernel_rfl, by kernel_rfl, by kernel_rfl⟩
def kyN (p : Nat × Nat) : Lit := .string (keyBytes [.int .i64 (p.1 : Int), .int .i64 (p.2 : Int)])
theorem tri_key {u v : Nat} (hu : u < 24) (hv : v < 24) : keyOf Try.prog 84 (.agg #[.int .i64 (u : Int), .int .i64 (v : Int)]) = some (kyN (u, v)) :=
  keyOf_pair tri_arr Try.underlying3 ⟨Try.prog.types.size - 1, by have h : (84 : Nat) < Try.prog.types.size := tri_row; omega⟩ (by simp [Lit.wf, IntKind.min, IntKind.max, IntKind.signed, IntKind.bits]; omega) (by simp [Lit.wf, IntKind.min, IntKind.max, IntKind.signed, IntKind.bits]; omega)
theorem tri_key_inj {p q : Nat × Nat} (hp : p.1 < 24 ∧ p.2 < 24) (hq : q.1 < 24 ∧ q.2 < 24) (h : kyN p = kyN q) : p = q := by
  have h1 := tri_key hp.1 hp.2
  have h2 := tri_key hq.1 hq.2
  have h3 := tri_keyed.inj h1 (h2.trans (congrArg some h.symm))
  simp at h3
  exact Prod.ext (by omega) (by omega)
def triD (L : List (Nat × Nat)) : DataW Unit := Maps.setOf (.lit (.int .i64 1)) (L.map kyN)
theorem kyN_key (p : Nat × Nat) : WideAt.IsKeyLit (kyN p) := trivial
theorem triD_new {L : List (Nat × Nat)} {p : Nat × Nat} (hL : ∀ q ∈ L, q.1 < 24 ∧ q.2 < 24) (hp : p.1 < 24 ∧ p.2 < 24) (h : p ∉ L) : Maps.has (triD L) (kyN p) = false := by
  unfold triD
  rw [Maps.has_setOf _ _ _ (fun x hx => by obtain ⟨q, _, rfl⟩ := List.mem_map.1 hx; exact kyN_key q), List.any_map, List.any_eq_false]
  intro q hq
  have : kyN q ≠ kyN p := fun e => h (by rw [← tri_key_inj (hL q hq) hp e]; exact hq)
  simp [Maps.sameKey_ne this]
theorem triD_snoc (L : List (Nat × Nat)) (p : Nat × Nat) : triD (L ++ [p]) = (triD L).put (kyN p) (.lit (.int .i64 1)) := by
  unfold triD; rw [List.map_append, List.map_singleton, Maps.setOf_snoc]
theorem triD_tidy (L : List (Nat × Nat)) : Maps.Tidy (triD L) := Maps.tidy_setOf _ _ fun x hx => by obtain ⟨q, _, rfl⟩ := List.mem_map.1 hx; exact kyN_key q
theorem triD_size : ∀ (n : Nat) (L : List (Nat × Nat)), L.length = n → L.Nodup → (∀ q ∈ L, q.1 < 24 ∧ q.2 < 24) → Maps.size (triD L) = n := fun n => by
  induction n with
  | zero => intro L hl _ _; rw [List.length_eq_zero_iff.1 hl]; rfl
  | succ n ih =>
    intro L hl hn hL
    rcases List.eq_nil_or_concat L with rfl | ⟨L', p, rfl⟩
    · simp at hl
    · rw [List.concat_eq_append] at *
      have hn' := List.nodup_append.1 hn
      have h1 : p ∉ L' := fun h => hn'.2.2 p h p (by simp) rfl
      have h2 : ∀ q ∈ L', q.1 < 24 ∧ q.2 < 24 := fun q hq => hL q (by simp [hq])
      rw [triD_snoc, Maps.size_put (triD_tidy L'), triD_new h2 (hL p (by simp)) h1]
      simp only [Bool.false_eq_true, if_false]
      rw [ih L' (by simp at hl; omega) hn'.1 h2]
end Go.Proofs.Ytpflnmcecnbilaa
