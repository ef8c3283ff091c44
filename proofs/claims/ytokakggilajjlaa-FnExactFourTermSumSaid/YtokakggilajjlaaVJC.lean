/- Plain law: numbers at words modulo a prime. Conditions: small numbers. -/
import Derived.Test.YtokakggilajjlaaVJ0
set_option linter.unusedVariables false
set_option linter.unusedSimpArgs false
namespace Go.Proofs.Ytokakggilajjlaa.V
open Go
theorem modI_e {p : Int} (h0 : 0 < p) (h1 : p ≤ 1000) (x : Int) : modI p x = x % p := by
  unfold modI
  have h2 : x.tmod p = x % p ∨ x.tmod p = x % p - p := by
    rw [Int.tmod_eq_emod]
    split
    · left; omega
    · right
      have : (p.natAbs : Int) = p := Int.natAbs_of_nonneg (by omega)
      omega
  have h3 := Int.emod_nonneg x (show p ≠ 0 by omega)
  have h4 := Int.emod_lt_of_pos x h0
  rw [w64_id (by omega) (by omega), Int.tmod_eq_emod_of_nonneg (by omega)]
  rcases h2 with h | h <;> rw [h]
  · rw [Int.add_emod_right, Int.emod_emod]
  · rw [Int.sub_add_cancel, Int.emod_emod]
/-- All numbers at a word, added up. -/
def wS : TermL → List Int → Int
  | [], _ => 0
  | x :: r, u => (if x.1 = u then x.2 else 0) + wS r u
theorem wS_append (a b : TermL) (u : List Int) : wS (a ++ b) u = wS a u + wS b u := by
  induction a with
  | nil => simp [wS]
  | cons x a ih => rw [List.cons_append, wS, wS, ih]; omega
theorem wS_none : ∀ {a : TermL} {u : List Int}, (∀ x ∈ a, x.1 ≠ u) → wS a u = 0
  | [], _, _ => rfl
  | x :: a, u, h => by rw [wS, if_neg (h x List.mem_cons_self), wS_none fun y hy => h y (List.mem_cons_of_mem _ hy)]; rfl
theorem cF_val {p : Int} (h0 : 0 < p) (h1 : p ≤ 1000) : ∀ (ts : TermL) (c : List Int → Int), (∀ x ∈ ts, -1000000 ≤ x.2 ∧ x.2 ≤ 1000000) → (∀ u, 0 ≤ c u ∧ c u < p) → ∀ u, cF p c ts u = (c u + wS ts u) % p
  | [], c, _, hc, u => by
    have := hc u
    rw [wS, Int.add_zero, Int.emod_eq_of_lt this.1 this.2]; rfl
  | x :: ts, c, hx, hc, u => by
    have e : ∀ v, cAdd p c x.1 x.2 v = if v = x.1 then (c x.1 + x.2) % p else c v := fun v => by
      have := hc x.1
      have := hx x List.mem_cons_self
      unfold cAdd
      rw [modI_e h0 h1, w64_id (by omega) (by omega)]
    show cF p (cAdd p c x.1 x.2) ts u = _
    rw [cF_val h0 h1 ts _ (fun y hy => hx y (List.mem_cons_of_mem _ hy)) (fun v => by
      rw [e]
      split
      · exact ⟨Int.emod_nonneg _ (by omega), Int.emod_lt_of_pos _ h0⟩
      · exact hc v), e, wS]
    by_cases hu : u = x.1
    · subst hu
      rw [if_pos rfl, if_pos rfl, Int.emod_add_emod, Int.add_assoc]
    · rw [if_neg hu, if_neg (Ne.symm hu), Int.zero_add]
theorem cF_eq {p : Int} (h0 : 0 < p) (h1 : p ≤ 1000) {a b : TermL} (ha : ∀ x ∈ a, -1000000 ≤ x.2 ∧ x.2 ≤ 1000000) (hb : ∀ x ∈ b, -1000000 ≤ x.2 ∧ x.2 ≤ 1000000) (h : ∀ u, wS a u % p = wS b u % p) : cF p (fun _ => 0) a = cF p (fun _ => 0) b := by
  funext u
  rw [cF_val h0 h1 a _ ha (fun _ => ⟨Int.le_refl 0, h0⟩), cF_val h0 h1 b _ hb (fun _ => ⟨Int.le_refl 0, h0⟩), Int.zero_add, Int.zero_add, h u]
/-- Numbers gathered, one by one. -/
def gS (p : Int) (l : MapL) (ts : TermL) : MapL := ts.foldl (fun l x => gAdd p l x.1 x.2) l
theorem gS_app (p : Int) (l : MapL) (a b : TermL) : gS p l (a ++ b) = gS p (gS p l a) b := by rw [gS, List.foldl_append]; rfl
theorem gS_len (p : Int) : ∀ (ts : TermL) (l : MapL), (gS p l ts).length ≤ l.length + ts.length
  | [], l => Nat.le_refl _
  | x :: ts, l => by
    have h1 := gS_len p ts (gAdd p l x.1 x.2)
    have h2 := gAdd_len p l x.1 x.2
    have e : gS p l (x :: ts) = gS p (gAdd p l x.1 x.2) ts := rfl
    rw [e, List.length_cons]; omega
theorem gS_rep (p : Int) : ∀ (ts : TermL) (l : MapL) (c : List Int → Int), GRep l c → (∀ x ∈ ts, smB x.1) → GRep (gS p l ts) (cF p c ts)
  | [], l, c, h, _ => h
  | x :: ts, l, c, h, hw => gS_rep p ts _ _ (h.add p (hw x List.mem_cons_self) x.2) (fun y hy => hw y (List.mem_cons_of_mem _ hy))
end Go.Proofs.Ytokakggilajjlaa.V
