/- Plain law: numbers at words, terms put in one by one. Conditions: small words. -/
import Derived.Test.YtokakggilajjlaaVM
import Derived.Test.YtokakggilajjlaaVS6
set_option linter.unusedVariables false
set_option linter.unusedSimpArgs false
namespace Go.Proofs.Ytokakggilajjlaa.V
open Go
/-- Numbers at words, added up. -/
def cF (p : Int) (c : List Int → Int) (ts : TermL) : List Int → Int := ts.foldl (fun c x => cAdd p c x.1 x.2) c
theorem cF_s (p : Int) (c : List Int → Int) (ts : TermL) (x : List Int × Int) : cF p c (ts ++ [x]) = cAdd p (cF p c ts) x.1 x.2 := by rw [cF, List.foldl_append]; rfl
theorem cF_app (p : Int) (c : List Int → Int) (a b : TermL) : cF p c (a ++ b) = cF p (cF p c a) b := by rw [cF, List.foldl_append]; rfl
/-- Terms put in, one by one. -/
def jS (p : Int) (ts : TermL) : TermL := ts.foldl (fun us x => jT p us x.1 x.2) []
theorem jS_s (p : Int) (ts : TermL) (x : List Int × Int) : jS p (ts ++ [x]) = jT p (jS p ts) x.1 x.2 := by rw [jS, List.foldl_append]; rfl
theorem snoc_ind {q : TermL → Prop} (h0 : q []) (h1 : ∀ a x, q a → q (a ++ [x])) (a : TermL) : q a := by
  have h : ∀ b : TermL, q b.reverse := fun b => by
    induction b with
    | nil => exact h0
    | cons x b ih => rw [List.reverse_cons]; exact h1 _ _ ih
  have := h a.reverse
  rwa [List.reverse_reverse] at this
theorem jS_rep (p : Int) (ts : TermL) (h : ∀ x ∈ ts, smB x.1) : SRep (jS p ts) (cF p (fun _ => 0) ts) := by
  revert h
  refine snoc_ind (q := fun ts => (∀ x ∈ ts, smB x.1) → SRep (jS p ts) (cF p (fun _ => 0) ts)) (fun _ => SRep.nil) (fun a x ih h => ?_) ts
  rw [jS_s, cF_s]
  exact (ih fun y hy => h y (List.mem_append_left _ hy)).put p (h x (List.mem_append_right _ (List.mem_singleton.2 rfl))) x.2
theorem jS_len (p : Int) (ts : TermL) : (jS p ts).length ≤ ts.length := by
  refine snoc_ind (q := fun ts => (jS p ts).length ≤ ts.length) (Nat.le_refl _) (fun a x ih => ?_) ts
  rw [jS_s, List.length_append, List.length_singleton]
  have := jT_len p (jS p a) x.1 x.2
  omega
theorem jS_q {p : Int} {q : List Int → Prop} {ts : TermL} (h : ∀ x ∈ ts, q x.1) : ∀ x ∈ jS p ts, q x.1 := by
  induction ts using snoc_ind with
  | h0 => intro x hx; cases hx
  | h1 a y ih =>
    rw [jS_s]
    intro x hx
    have ih := ih (fun z hz => h z (List.mem_append_left _ hz))
    rcases jT_mem hx with e | hm
    · rw [e]; exact h y (List.mem_append_right _ (List.mem_singleton.2 rfl))
    · exact ih x hm
theorem isW_len {w : List Int} (h : isW w = true) : w.length ≤ 12 := (Go.Proofs.Ytokakggilajjlaa.L.word_range (by rw [← Go.Proofs.Ytokakggilajjlaa.L.isW_eq]; exact h)).1
theorem half_i {n : Nat} (h : n ≤ 12) : w64 (((n : Nat) : Int).tdiv 2) = ((n / 2 : Nat) : Int) := by
  rw [show ((n : Nat) : Int).tdiv 2 = ((n / 2 : Nat) : Int) from rfl]
  exact w64_id (by omega) (by omega)
abbrev tS' : TypeId := 28
end Go.Proofs.Ytokakggilajjlaa.V
