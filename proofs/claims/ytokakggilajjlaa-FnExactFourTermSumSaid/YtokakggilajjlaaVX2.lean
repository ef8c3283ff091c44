/- Contracts: four-term sums, both sides, and the law. Conditions: told by each spec. -/
import Derived.Test.YtokakggilajjlaaVX1
import Derived.Test.YtokakggilajjlaaVP2
import Derived.Test.YtokakggilajjlaaVPl
set_option linter.unusedVariables false
set_option linter.unusedSimpArgs false
namespace Go.Proofs.Ytokakggilajjlaa.V
open Go
def sp_isChord : List Cv → List Obj' → Tree
  | [.one (.ro (.int .i64) w), .one (.v (.int .i64 i))], [] => .need ((w : List Int).length ≤ 1000) (.ret (vb (inB i 0 (((w.length / 2 : Nat) : Int) - 1))) [])
  | _, _ => .fail
set_option maxHeartbeats 4000000 in
set_option maxRecDepth 100000 in
theorem good_isChord : Good Try.prog 80 sp_isChord := by
  refine good_ofF Try.func80 rfl _ rfl _ rfl (tab [c_chords, c_in]) (fun X cs os0 K hok hos hK => ?_)
  clear hos; unfold sp_isChord at hK
  split at hK
  case h_2 => exact hK.elim
  rename_i w i
  refine ⟨by simp, by simp, ?_⟩
  simp only [go_sem] at hK hok
  simp (maxSteps := 4000000) only [go_sem, Try.f80, ↓brB_t, ↓brB_f, Nat.reduceAdd, Int.reduceLE, Int.reduceLT, Int.reduceNeg, decide_true, decide_false, Bool.and_self, Nat.succ_eq_add_one, Int.toNat_natCast, Nat.beq_refl, Bool.and_true, Bool.true_and, Bool.false_or, Bool.or_true, List.all_cons, List.all_nil, Nat.reduceMul, Nat.add_zero, Nat.zero_add, List.length_nil, List.length_cons, dite_true, List.nil_append, Nat.reduceBEq, reduceDIte, reduceIte, reduceCtorEq, Bool.or_false, Bool.true_or, Bool.and_false, Bool.false_and, Bool.not_true, Bool.not_false, Option.isSome_some, Option.isSome_none, Option.getD_some, List.getElem?_cons_zero, List.getElem?_cons_succ, eq_self, and_self, List.take_succ_cons, List.take_zero, List.drop_succ_cons, List.drop_zero]
  obtain ⟨h1, hK⟩ := hK
  clear hok
  refine ret0 ?_
  rw [w64_id (by omega) (by omega)]
  exact hK
def c_isChord : Ctr Try.prog := ⟨80, ent Try.func80 rfl rfl, [], sp_isChord, good_isChord, []⟩
@[go_sem] theorem c_isChord_f : c_isChord.f = 80 := rfl
@[go_sem] theorem c_isChord_ms : c_isChord.ms = [] := rfl
@[go_sem] theorem c_isChord_sp : c_isChord.spec = sp_isChord := rfl
@[go_sem] theorem c_isChord_fz : c_isChord.fz = [] := rfl
attribute [go_sem] sp_isChord
theorem inB_t' {x a b : Int} (h : inB x a b = true) : a ≤ x ∧ x ≤ b := by simpa [inB] using h
def okX (p : Int) (w : List Int) (i x : Int) : Bool := primeB p && (inB ((w.length / 2 : Nat) : Int) 1 5 && (inB i 0 (((w.length / 2 : Nat) : Int) - 1) && inB x 0 w.length))
/-- What FourTermSum gives. -/
def fR (p : Int) (w : List Int) (i x : Int) : (Int × TermL) × Int := if isW w then (if okX p w i x then ((p, jS p (fourT w i x 1 (p - 1) 4)), 0) else ((0, []), 2)) else ((0, []), 1)
def sp_fOf : List Cv → List Obj' → Tree
  | [.one (.v (.int .i64 p)), .one (.ro (.int .i64) w), .one (.v (.int .i64 i)), .one (.v (.int .i64 x))], [] => resS (fR p w i x)
  | _, _ => .fail
theorem prime_13 {p : Int} (h : primeB p = true) : 0 < p ∧ p ≤ 13 := by
  simp only [primeB, Bool.or_eq_true, decide_eq_true_eq] at h
  omega
set_option maxHeartbeats 4000000 in
set_option maxRecDepth 100000 in
theorem good_fOfS : Good Try.prog 24 sp_fOf := by
  refine good_ofF Try.func24 rfl _ rfl _ rfl (tab [c_l01Is, c_l03Prime, c_l01In, c_fourS]) (fun X cs os0 K hok hos hK => ?_)
  clear hos; unfold sp_fOf at hK
  split at hK
  case h_2 => exact hK.elim
  rename_i p w i x
  refine ⟨by simp, by simp, ?_⟩
  simp only [go_sem] at hK hok
  simp (maxSteps := 4000000) only [go_sem, Try.f24, ↓brB_t, ↓brB_f, Nat.reduceAdd, Int.reduceLE, Int.reduceLT, Int.reduceNeg, decide_true, decide_false, Bool.and_self, Nat.succ_eq_add_one, Int.toNat_natCast, Nat.beq_refl, Bool.and_true, Bool.true_and, Bool.false_or, Bool.or_true, List.all_cons, List.all_nil, Nat.reduceMul, Nat.add_zero, Nat.zero_add, List.length_nil, List.length_cons, dite_true, List.nil_append, Nat.reduceBEq, reduceDIte, reduceIte, reduceCtorEq, Bool.or_false, Bool.true_or, Bool.and_false, Bool.false_and, Bool.not_true, Bool.not_false, Option.isSome_some, Option.isSome_none, Option.getD_some, List.getElem?_cons_zero, List.getElem?_cons_succ, eq_self, and_self, List.take_succ_cons, List.take_zero, List.drop_succ_cons, List.drop_zero]
  clear hok
  have err : ∀ {c : Int}, fR p w i x = ((0, []), c) → K (.tup [.agg [.v (.int .i64 0), .own 0], .one (.v (.int .i64 c))]) [.drow tI kTerm []] := fun e => by rw [e] at hK; exact hK
  refine ⟨by decide, brB_intro (fun h1 => retM [⟨.cell 144 1, 16, tI, kTerm⟩] rfl (retN [16] rfl (err (by rw [fR, if_neg (by rw [snb h1]; decide)])))) (fun h1 => ?_)⟩
  have h1 := snb' h1
  have hl := isW_len h1
  have r2 : okX p w i x = false → fR p w i x = ((0, []), 2) := fun e => by rw [fR, if_pos h1, if_neg (by rw [e]; decide)]
  obtain ⟨n, hn⟩ := Go.Proofs.Ytokakggilajjlaa.L.word_of w (by rw [← Go.Proofs.Ytokakggilajjlaa.L.isW_eq]; exact h1)
  have hn := hn.len
  rw [half_i hl, w64_id (by omega) (by omega), show w64 (2 * ((w.length / 2 : Nat) : Int)) = (w.length : Int) by rw [w64_id (by omega) (by omega)]; omega]
  refine brB_intro (fun h2 => retM [⟨.cell 144 1, 16, tI, kTerm⟩] rfl (retN [16] rfl (err (r2 (by rw [okX, snb h2]; rfl))))) (fun h2 => ?_)
  refine brB_intro (fun h3 => retM [⟨.cell 144 1, 16, tI, kTerm⟩] rfl (retN [16] rfl (err (r2 (by rw [okX, snb' h2, snb h3]; rfl))))) (fun h3 => ?_)
  refine brB_intro (fun h4 => retM [⟨.cell 144 1, 16, tI, kTerm⟩] rfl (retN [16] rfl (err (r2 (by rw [okX, snb' h2, snb' h3, snb h4]; rfl))))) (fun h4 => ?_)
  refine brB_intro (fun h5 => retM [⟨.cell 144 1, 16, tI, kTerm⟩] rfl (retN [16] rfl (err (r2 (by rw [okX, snb' h2, snb' h3, snb' h4, snb h5]; rfl))))) (fun h5 => ?_)
  have er : fR p w i x = ((p, jS p (fourT w i x 1 (p - 1) 4)), 0) := by rw [fR, if_pos h1, okX, snb' h2, snb' h3, snb' h4, snb' h5]; rfl
  rw [er] at hK
  have a2 := prime_13 (snb' h2)
  have a4 := inB_t' (snb' h4)
  have a5 := inB_t' (snb' h5)
  exact ⟨⟨a2.1, a2.2, h1, a4.1, by omega, a5.1, a5.2⟩, retN [768] rfl hK⟩
def c_fOfS : Ctr Try.prog := ⟨24, ent Try.func24 rfl rfl, [], sp_fOf, good_fOfS, []⟩
@[go_sem] theorem c_fOfS_f : c_fOfS.f = 24 := rfl
@[go_sem] theorem c_fOfS_ms : c_fOfS.ms = [] := rfl
@[go_sem] theorem c_fOfS_sp : c_fOfS.spec = sp_fOf := rfl
@[go_sem] theorem c_fOfS_fz : c_fOfS.fz = [] := rfl
attribute [go_sem] sp_fOf
set_option maxHeartbeats 4000000 in
set_option maxRecDepth 100000 in
theorem good_fOfI : Good Try.prog 26 sp_fOf := by
  refine good_ofF Try.func26 rfl _ rfl _ rfl (tab [c_IsWord, c_isPrime, c_chords, c_in, c_isChord, c_placesOk, c_fourI]) (fun X cs os0 K hok hos hK => ?_)
  clear hos; unfold sp_fOf at hK
  split at hK
  case h_2 => exact hK.elim
  rename_i p w i x
  refine ⟨by simp, by simp, ?_⟩
  simp only [go_sem] at hK hok
  simp (maxSteps := 4000000) only [go_sem, Try.f26, ↓brB_t, ↓brB_f, Nat.reduceAdd, Int.reduceLE, Int.reduceLT, Int.reduceNeg, decide_true, decide_false, Bool.and_self, Nat.succ_eq_add_one, Int.toNat_natCast, Nat.beq_refl, Bool.and_true, Bool.true_and, Bool.false_or, Bool.or_true, List.all_cons, List.all_nil, Nat.reduceMul, Nat.add_zero, Nat.zero_add, List.length_nil, List.length_cons, dite_true, List.nil_append, Nat.reduceBEq, reduceDIte, reduceIte, reduceCtorEq, Bool.or_false, Bool.true_or, Bool.and_false, Bool.false_and, Bool.not_true, Bool.not_false, Option.isSome_some, Option.isSome_none, Option.getD_some, List.getElem?_cons_zero, List.getElem?_cons_succ, eq_self, and_self, List.take_succ_cons, List.take_zero, List.drop_succ_cons, List.drop_zero]
  clear hok
  have err : ∀ {c : Int}, fR p w i x = ((0, []), c) → K (.tup [.agg [.v (.int .i64 0), .own 0], .one (.v (.int .i64 c))]) [.drow tI kTerm []] := fun e => by rw [e] at hK; exact hK
  have pe : placesB w.length [x] = inB x 0 w.length := by simp [placesB, placeB]
  rw [pe]
  refine brB_intro (fun h1 => retM [⟨.cell 144 1, 16, tI, kTerm⟩] rfl (retN [16] rfl (err (by rw [fR, if_neg (by rw [snb h1]; decide)])))) (fun h1 => ?_)
  have h1 := snb' h1
  have hl := isW_len h1
  have r2 : okX p w i x = false → fR p w i x = ((0, []), 2) := fun e => by rw [fR, if_pos h1, if_neg (by rw [e]; decide)]
  refine brB_intro (fun h2 => retM [⟨.cell 144 1, 16, tI, kTerm⟩] rfl (retN [16] rfl (err (r2 (by rw [okX, snb h2]; rfl))))) (fun h2 => ?_)
  refine brB_intro (fun h3 => retM [⟨.cell 144 1, 16, tI, kTerm⟩] rfl (retN [16] rfl (err (r2 (by rw [okX, snb' h2, snb h3]; rfl))))) (fun h3 => ?_)
  refine ⟨by omega, brB_intro (fun h4 => retM [⟨.cell 144 1, 16, tI, kTerm⟩] rfl (retN [16] rfl (err (r2 (by rw [okX, snb' h2, snb' h3, snb h4]; rfl))))) (fun h4 => ?_)⟩
  refine brB_intro (fun h5 => retM [⟨.cell 144 1, 16, tI, kTerm⟩] rfl (retN [16] rfl (err (r2 (by rw [okX, snb' h2, snb' h3, snb' h4, snb h5]; rfl))))) (fun h5 => ?_)
  have er : fR p w i x = ((p, jS p (fourT w i x 1 (p - 1) 4)), 0) := by rw [fR, if_pos h1, okX, snb' h2, snb' h3, snb' h4, snb' h5]; rfl
  rw [er] at hK
  have a2 := prime_13 (snb' h2)
  have a4 := inB_t' (snb' h4)
  have a5 := inB_t' (snb' h5)
  exact ⟨⟨a2.1, a2.2, h1, a4.1, by omega, a5.1, a5.2⟩, retN [704] rfl hK⟩
def c_fOfI : Ctr Try.prog := ⟨26, ent Try.func26 rfl rfl, [], sp_fOf, good_fOfI, []⟩
@[go_sem] theorem c_fOfI_f : c_fOfI.f = 26 := rfl
@[go_sem] theorem c_fOfI_ms : c_fOfI.ms = [] := rfl
@[go_sem] theorem c_fOfI_sp : c_fOfI.spec = sp_fOf := rfl
@[go_sem] theorem c_fOfI_fz : c_fOfI.fz = [] := rfl
attribute [go_sem] sp_fOf
theorem fR_len (p : Int) (w : List Int) (i x : Int) : (fR p w i x).1.2.length ≤ 200 ∧ ∀ y ∈ (fR p w i x).1.2, y.1.length ≤ 24 := by
  unfold fR
  split
  · rename_i hw
    split
    · rename_i ho
      simp only [okX, Bool.and_eq_true, inB, decide_eq_true_eq] at ho
      have hjl := jS_len p (fourT w i x 1 (p - 1) 4)
      have hfl : (fourT w i x 1 (p - 1) 4).length = 4 := by simp [fourT]
      refine ⟨by show (jS p _).length ≤ 200; omega, fun y hy => ?_⟩
      exact jS_q (q := fun u => u.length ≤ 24) (fun z hz => (fourT_sm hw (by omega) (by omega) (by omega) (by omega) 4 z hz).1.1) y hy
    · exact ⟨Nat.zero_le _, fun y hy => by cases hy⟩
  · exact ⟨Nat.zero_le _, fun y hy => by cases hy⟩
theorem szT_le24 : ∀ {ts : TermL}, (∀ x ∈ ts, x.1.length ≤ 24) → szT ts ≤ 24 * ts.length
  | [], _ => by simp [szT]
  | x :: r, h => by
    have h1 := h x List.mem_cons_self
    have h2 := szT_le24 (ts := r) fun y hy => h y (List.mem_cons_of_mem _ hy)
    have : szT (x :: r) = x.1.length + szT r := by simp [szT]
    rw [this, List.length_cons]
    omega
def sp_lawF : List Cv → List Obj' → Tree
  | [.one (.v (.int .i64 p)), .one (.ro (.int .i64) w), .one (.v (.int .i64 i)), .one (.v (.int .i64 x))], [] => .ret (vb true) []
  | _, _ => .fail
set_option maxHeartbeats 4000000 in
set_option maxRecDepth 100000 in
theorem good_lawFourTermSum : Good Try.prog 6 sp_lawF := by
  refine good_ofF Try.func6 rfl _ rfl _ rfl (tab [c_to, c_fOfS, c_fOfI, c_eqS, c_mark, c_eqSum, c_markSum, c_heldSum]) (fun X cs os0 K hok hos hK => ?_)
  clear hos; unfold sp_lawF at hK
  split at hK
  case h_2 => exact hK.elim
  rename_i p w i x
  refine ⟨by simp, by simp, ?_⟩
  simp only [go_sem] at hK hok
  simp (maxSteps := 4000000) only [go_sem, Try.f6, ↓brB_t, ↓brB_f, Nat.reduceAdd, Int.reduceLE, Int.reduceLT, Int.reduceNeg, decide_true, decide_false, Bool.and_self, Nat.succ_eq_add_one, Int.toNat_natCast, Nat.beq_refl, Bool.and_true, Bool.true_and, Bool.false_or, Bool.or_true, List.all_cons, List.all_nil, Nat.reduceMul, Nat.add_zero, Nat.zero_add, List.length_nil, List.length_cons, dite_true, List.nil_append, Nat.reduceBEq, reduceDIte, reduceIte, reduceCtorEq, Bool.or_false, Bool.true_or, Bool.and_false, Bool.false_and, Bool.not_true, Bool.not_false, Option.isSome_some, Option.isSome_none, Option.getD_some, List.getElem?_cons_zero, List.getElem?_cons_succ, eq_self, and_self, List.take_succ_cons, List.take_zero, List.drop_succ_cons, List.drop_zero]
  have hr := fR_len p w i x
  generalize fR p w i x = r at *
  clear hok
  refine brB_intro (fun _ => ret0 hK) (fun h1 => ?_)
  have h1 := of_decide_eq_false h1
  have hb := szT_le24 hr.2
  have hb2 := hr.1
  clear hr
  generalize szT r.1.2 = z at *
  exact ⟨by omega, by omega, by omega, ⟨trivial, trivial, by omega⟩, brB_intro (fun h2 => by have := of_decide_eq_true h2; omega) (fun _ => ⟨⟨trivial, by omega⟩, ⟨trivial, by omega⟩, brB_intro (fun h2 => by have := of_decide_eq_true h2; omega) (fun _ => ⟨by omega, ⟨trivial, by omega⟩, brB_intro (fun h2 => by have := of_decide_eq_true h2; omega) (fun _ => ret0 hK)⟩)⟩)⟩
end Go.Proofs.Ytokakggilajjlaa.V
