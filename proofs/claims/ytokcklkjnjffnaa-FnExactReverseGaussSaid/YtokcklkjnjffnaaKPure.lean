/- Plain words and laws on lists: what the functions of the program compute. No program in it. Conditions: none. -/
import Derived.Test.YtokcklkjnjffnaaWWords
import Derived.Test.YtokcklkjnjffnaaWMore
set_option linter.unusedVariables false
set_option linter.unusedSimpArgs false
namespace Go.Proofs.Ytokcklkjnjffnaa.K
open Go.RowKit Go.Proofs.YtokcklkjnjffnaaW.PrintWords Go.Proofs.YtokcklkjnjffnaaW.PrintMore

theorem rd_mem (l : List Int) (k : Nat) (h : k < l.length) : rd l k ∈ l := by
  unfold rd
  rw [List.getD_eq_getElem?_getD, Int.toNat_natCast, List.getElem?_eq_getElem h]
  exact List.getElem_mem _
theorem drop_at (l : List Int) (k : Nat) (h : k < l.length) : l.drop k = rd l k :: l.drop (k + 1) := by
  rw [List.drop_eq_getElem_cons h]
  unfold rd
  rw [List.getD_eq_getElem?_getD, Int.toNat_natCast, List.getElem?_eq_getElem h]
  rfl

/-- Is n from lo to hi? -/
def inB (n lo hi : Int) : Bool := decide (lo ≤ n) && decide (n ≤ hi)

/-- One pass of 1 / (1 - t^k) over a list, from place i on, numbers staying at 2000000000. -/
def passFrom (l : List Int) (k i : Nat) : Nat → List Int
  | 0 => l
  | d + 1 => passFrom (l.set i (min (l.getD i 0 + l.getD (i - k) 0) 2000000000)) k (i + 1) d
def pass (l : List Int) (k : Nat) : List Int := passFrom l k k (l.length - k)
def passes (l : List Int) (k : Nat) : Nat → List Int
  | 0 => l
  | n + 1 => passes (pass l k) k n
theorem passFrom_length (k d : Nat) : ∀ (l : List Int) (i : Nat), (passFrom l k i d).length = l.length := by
  induction d with
  | zero => intro l i; rfl
  | succ d ih => intro l i; rw [passFrom, ih]; simp
theorem pass_length (l : List Int) (k : Nat) : (pass l k).length = l.length := passFrom_length _ _ _ _
theorem passes_length (k n : Nat) : ∀ l : List Int, (passes l k n).length = l.length := by
  induction n with
  | zero => intro l; rfl
  | succ n ih => intro l; rw [passes, ih, pass_length]

/-- All passes of a list of numbers: for its element number i, so many with k = i + 1. -/
def allPasses (out : List Int) (i : Nat) : List Int → List Int
  | [] => out
  | a :: r => allPasses (passes out (i + 1) a.toNat) (i + 1) r
theorem allPasses_length (r : List Int) : ∀ (out : List Int) (i : Nat), (allPasses out i r).length = out.length := by
  induction r with
  | nil => intro out i; rfl
  | cons a r ih => intro out i; rw [allPasses, ih, passes_length]

/-- The greatest of a list of numbers that begins with m. -/
def maxL (m : Int) (l : List Int) : Int := l.foldl (fun a b => if a < b then b else a) m
/-- The greatest of a list that is not empty. -/
def maxOf (l : List Int) : Int := maxL (l.headD 0) l.tail

def badIn (hi : Int) (l : List Int) : Bool := l.any fun n => !inB n 0 hi
def startL (n : Nat) : List Int := 1 :: List.replicate n 0
def transL (l : List Int) : List Int := allPasses (startL l.length) 0 l
def transI (l : List Int) : List Int × Int :=
  if 20 < l.length ∨ badIn 1000 l = true then ([], 2) else if 1000000000 < maxOf (transL l) then ([], 3) else (transL l, 0)

theorem transI_length (l : List Int) (h : l.length ≤ 1048576) : (transI l).1.length ≤ 1048577 := by
  unfold transI
  split
  · simp
  · split
    · simp
    · simp only [transL, allPasses_length, startL, List.length_cons, List.length_replicate]; omega

/-- The loop of the inverse: what is left of the list's numbers from place k on, the series so far, the result so far. -/
def untransFrom (l now out : List Int) (k : Nat) : Nat → List Int × Int
  | 0 => (out, 0)
  | d + 1 => if inB (l.getD k 0 - now.getD k 0) 0 1000 = true then untransFrom l (passes now k (l.getD k 0 - now.getD k 0).toNat) (out ++ [l.getD k 0 - now.getD k 0]) (k + 1) d else ([], 5)
def untransI (l : List Int) : List Int × Int :=
  if l.length < 1 ∨ 21 < l.length ∨ badIn 1000000000 l = true ∨ l.getD 0 0 ≠ 1 then ([], 2) else untransFrom l (startL (l.length - 1)) [] 1 (l.length - 1)
theorem untransFrom_length (l : List Int) (d : Nat) : ∀ (now out : List Int) (k : Nat), (untransFrom l now out k d).1.length ≤ out.length + d := by
  induction d with
  | zero => intro now out k; exact Nat.le_refl _
  | succ d ih =>
    intro now out k
    rw [untransFrom]
    split
    · refine Nat.le_trans (ih _ _ _) ?_
      simp; omega
    · simp
theorem untransI_length (l : List Int) : (untransI l).1.length ≤ 1048577 := by
  unfold untransI
  split
  · simp
  · rename_i h
    simp only [not_or] at h
    refine Nat.le_trans (untransFrom_length _ _ _ _ _) ?_
    simp; omega
end Go.Proofs.Ytokcklkjnjffnaa.K
