/- Contracts: chords added, deleted, words joined, places, by both sides. Conditions: told by each spec. -/
import Derived.Test.YtbnmjhcokdhjmaaVXA
import Derived.Test.YtbnmjhcokdhjmaaVJW
import Derived.Test.YtbnmjhcokdhjmaaVUw
import Derived.Test.YtbnmjhcokdhjmaaVPl
set_option linter.unusedVariables false
set_option linter.unusedSimpArgs false
namespace Go.Proofs.Ytbnmjhcokdhjmaa.V
open Go
abbrev t64 : TypeId := 2
def resU (r : List Int × Int) : Tree := .ret (.tup [.one (.own 0), .one (.v (.int .i64 r.2))]) [rwi r.1]
theorem inU {x a b : Int} (h : inB x a b = true) : a ≤ x ∧ x ≤ b := by simpa [inB] using h
theorem half_even {w : List Int} (hw : isW w = true) : ∃ n, w.length = 2 * n ∧ n ≤ 6 := by
  obtain ⟨n, hn⟩ := Go.Proofs.Ytbnmjhcokdhjmaa.L.word_of w (by rw [← Go.Proofs.Ytbnmjhcokdhjmaa.L.isW_eq]; exact hw)
  have := hn.len
  have := y_len hw
  exact ⟨n, by omega, by omega⟩
/-! ### AddChord -/
def acR (w : List Int) (p q : Int) : List Int × Int := if isW w then (if inB q 0 w.length && inB p 0 q then (if w.length = 12 then ([], 3) else (addL w p.toNat q.toNat, 0)) else ([], 2)) else ([], 1)
def sp_ac : List Cv → List Obj' → Tree
  | [.one (.ro (.int .i64) w), .one (.v (.int .i64 p)), .one (.v (.int .i64 q))], [] => resU (acR w p q)
  | _, _ => .fail
set_option maxHeartbeats 4000000 in
set_option maxRecDepth 100000 in
theorem good_acI : Good Try.prog 10 sp_ac := by
  refine good_ofF Try.func10 rfl _ rfl _ rfl (tab [c_IsWord, c_placesOk, c_chords, c_wc]) (fun X cs os0 K hok hos hK => ?_)
  clear hos; unfold sp_ac at hK
  split at hK
  case h_2 => exact hK.elim
  rename_i w p q
  refine ⟨by simp, by simp, ?_⟩
  simp only [go_sem] at hK hok
  simp (maxSteps := 4000000) only [go_sem, Try.f10, ↓brB_t, ↓brB_f, Nat.reduceAdd, Int.reduceLE, Int.reduceLT, Int.reduceNeg, decide_true, decide_false, Bool.and_self, Nat.succ_eq_add_one, Int.toNat_natCast, Nat.beq_refl, Bool.and_true, Bool.true_and, Bool.false_or, Bool.or_true, List.all_cons, List.all_nil, Nat.reduceMul, Nat.add_zero, Nat.zero_add, List.length_nil, List.length_cons, dite_true, List.nil_append, Nat.reduceBEq, reduceDIte, reduceIte, reduceCtorEq, Bool.or_false, Bool.true_or, Bool.and_false, Bool.false_and, Bool.not_true, Bool.not_false, Option.isSome_some, Option.isSome_none, Option.getD_some, List.getElem?_cons_zero, List.getElem?_cons_succ, eq_self, and_self, List.take_succ_cons, List.take_zero, List.drop_succ_cons, List.drop_zero]
  clear hok
  have err : ∀ {c : Int}, acR w p q = ([], c) → K (.tup [.one (.own 0), .one (.v (.int .i64 c))]) [rwi []] := fun e => by rw [e] at hK; exact hK
  have pe : placesB w.length [p, q] = (inB q 0 w.length && inB p 0 q) := by
    rw [Bool.eq_iff_iff]
    simp [placesB, placeB, inB, List.range_succ]
    omega
  rw [pe]
  refine brB_intro (fun h1 => retM [⟨.reg 6 0, 16, t64, .int .i64⟩] rfl (retN [16] rfl (err (by rw [acR, if_neg (by rw [nb h1]; decide)])))) (fun h1 => ?_)
  have h1 := nb' h1
  refine brB_intro (fun h2 => retM [⟨.reg 6 0, 16, t64, .int .i64⟩] rfl (retN [16] rfl (err (by rw [acR, if_pos h1, if_neg (by rw [nb h2]; decide)])))) (fun h2 => ?_)
  have h2 := nb' h2
  obtain ⟨n, hn, hn6⟩ := half_even h1
  refine brB_intro (fun h3 => retM [⟨.reg 6 0, 16, t64, .int .i64⟩] rfl (retN [16] rfl (err (by rw [acR, if_pos h1, if_pos h2, if_pos (by have := of_decide_eq_true h3; omega)])))) (fun h3 => ?_)
  have h3 := of_decide_eq_false h3
  have er : acR w p q = (addL w p.toNat q.toNat, 0) := by rw [acR, if_pos h1, if_pos h2, if_neg (by omega)]
  rw [er] at hK
  rw [Bool.and_eq_true] at h2
  have a1 := inU h2.1
  have a2 := inU h2.2
  exact ⟨⟨h1, a2.1, a2.2, a1.2⟩, retN [432] rfl hK⟩
def c_acI : Ctr Try.prog := ⟨10, ent Try.func10 rfl rfl, [], sp_ac, good_acI, []⟩
@[go_sem] theorem c_acI_f : c_acI.f = 10 := rfl
@[go_sem] theorem c_acI_ms : c_acI.ms = [] := rfl
@[go_sem] theorem c_acI_sp : c_acI.spec = sp_ac := rfl
@[go_sem] theorem c_acI_fz : c_acI.fz = [] := rfl
attribute [go_sem] sp_ac
set_option maxHeartbeats 4000000 in
set_option maxRecDepth 100000 in
theorem good_acS : Good Try.prog 11 sp_ac := by
  refine good_ofF Try.func11 rfl _ rfl _ rfl (tab [c_l01Code, c_l01In, c_addS]) (fun X cs os0 K hok hos hK => ?_)
  clear hos; unfold sp_ac at hK
  split at hK
  case h_2 => exact hK.elim
  rename_i w p q
  refine ⟨by simp, by simp, ?_⟩
  simp only [go_sem] at hK hok
  simp (maxSteps := 4000000) only [go_sem, Try.f11, ↓brB_t, ↓brB_f, Nat.reduceAdd, Int.reduceLE, Int.reduceLT, Int.reduceNeg, decide_true, decide_false, Bool.and_self, Nat.succ_eq_add_one, Int.toNat_natCast, Nat.beq_refl, Bool.and_true, Bool.true_and, Bool.false_or, Bool.or_true, List.all_cons, List.all_nil, Nat.reduceMul, Nat.add_zero, Nat.zero_add, List.length_nil, List.length_cons, dite_true, List.nil_append, Nat.reduceBEq, reduceDIte, reduceIte, reduceCtorEq, Bool.or_false, Bool.true_or, Bool.and_false, Bool.false_and, Bool.not_true, Bool.not_false, Option.isSome_some, Option.isSome_none, Option.getD_some, List.getElem?_cons_zero, List.getElem?_cons_succ, eq_self, and_self, List.take_succ_cons, List.take_zero, List.drop_succ_cons, List.drop_zero]
  clear hok
  have err : ∀ {c : Int}, acR w p q = ([], c) → K (.tup [.one (.own 0), .one (.v (.int .i64 c))]) [rwi []] := fun e => by rw [e] at hK; exact hK
  by_cases h1 : isW w = true
  · obtain ⟨n, hn, hn6⟩ := half_even h1
    by_cases h2 : inB q 0 w.length = true
    · have e : codeR w q w.length = 0 := by rw [codeR, if_pos h1, if_pos h2]
      rw [e]
      refine brB_intro (fun h => absurd h (by decide)) (fun _ => brB_intro (fun h3 => retM [⟨.reg 6 0, 16, t64, .int .i64⟩] rfl (retN [16] rfl (err (by rw [acR, if_pos h1, if_neg (by rw [h2, nb h3]; decide)])))) (fun h3 => ?_))
      have h3 := nb' h3
      refine brB_intro (fun h4 => retM [⟨.reg 6 0, 16, t64, .int .i64⟩] rfl (retN [16] rfl (err (by rw [acR, if_pos h1, if_pos (by rw [h2, h3]; rfl), if_pos (by have := of_decide_eq_true h4; omega)])))) (fun h4 => ?_)
      have h4 := of_decide_eq_false h4
      have er : acR w p q = (addL w p.toNat q.toNat, 0) := by rw [acR, if_pos h1, if_pos (by rw [h2, h3]; rfl), if_neg (by omega)]
      rw [er] at hK
      have a1 := inU h2
      have a2 := inU h3
      exact ⟨⟨h1, a2.1, a2.2, a1.2⟩, retN [448] rfl hK⟩
    · have e : codeR w q w.length = 2 := by rw [codeR, if_pos h1, if_neg h2]
      have h2 : inB q 0 w.length = false := by simpa using h2
      rw [e]
      exact brB_intro (fun _ => retM [⟨.reg 6 0, 16, t64, .int .i64⟩] rfl (retN [16] rfl (err (by rw [acR, if_pos h1, if_neg (by rw [h2]; simp)])))) (fun h => absurd h (by decide))
  · have e : codeR w q w.length = 1 := by rw [codeR, if_neg h1]
    rw [e]
    exact brB_intro (fun _ => retM [⟨.reg 6 0, 16, t64, .int .i64⟩] rfl (retN [16] rfl (err (by rw [acR, if_neg h1])))) (fun h => absurd h (by decide))
def c_acS : Ctr Try.prog := ⟨11, ent Try.func11 rfl rfl, [], sp_ac, good_acS, []⟩
@[go_sem] theorem c_acS_f : c_acS.f = 11 := rfl
@[go_sem] theorem c_acS_ms : c_acS.ms = [] := rfl
@[go_sem] theorem c_acS_sp : c_acS.spec = sp_ac := rfl
@[go_sem] theorem c_acS_fz : c_acS.fz = [] := rfl
attribute [go_sem] sp_ac
/-! ### DeleteChord -/
def dcR (w : List Int) (i : Int) : List Int × Int := if isW w then (if inB i 0 (((w.length / 2 : Nat) : Int) - 1) then (wtL w i, 0) else ([], 2)) else ([], 1)
def sp_dc : List Cv → List Obj' → Tree
  | [.one (.ro (.int .i64) w), .one (.v (.int .i64 i))], [] => resU (dcR w i)
  | _, _ => .fail
def sp_isCh : List Cv → List Obj' → Tree
  | [.one (.ro (.int .i64) w), .one (.v (.int .i64 i))], [] => .need ((w : List Int).length ≤ 1000) (.ret (vb (inB i 0 (((w.length / 2 : Nat) : Int) - 1))) [])
  | _, _ => .fail
set_option maxHeartbeats 4000000 in
set_option maxRecDepth 100000 in
theorem good_isCh : Good Try.prog 62 sp_isCh := by
  refine good_ofF Try.func62 rfl _ rfl _ rfl (tab [c_chords, c_in]) (fun X cs os0 K hok hos hK => ?_)
  clear hos; unfold sp_isCh at hK
  split at hK
  case h_2 => exact hK.elim
  rename_i w i
  refine ⟨by simp, by simp, ?_⟩
  simp only [go_sem] at hK hok
  simp (maxSteps := 4000000) only [go_sem, Try.f62, ↓brB_t, ↓brB_f, Nat.reduceAdd, Int.reduceLE, Int.reduceLT, Int.reduceNeg, decide_true, decide_false, Bool.and_self, Nat.succ_eq_add_one, Int.toNat_natCast, Nat.beq_refl, Bool.and_true, Bool.true_and, Bool.false_or, Bool.or_true, List.all_cons, List.all_nil, Nat.reduceMul, Nat.add_zero, Nat.zero_add, List.length_nil, List.length_cons, dite_true, List.nil_append, Nat.reduceBEq, reduceDIte, reduceIte, reduceCtorEq, Bool.or_false, Bool.true_or, Bool.and_false, Bool.false_and, Bool.not_true, Bool.not_false, Option.isSome_some, Option.isSome_none, Option.getD_some, List.getElem?_cons_zero, List.getElem?_cons_succ, eq_self, and_self, List.take_succ_cons, List.take_zero, List.drop_succ_cons, List.drop_zero]
  obtain ⟨h1, hK⟩ := hK
  clear hok
  refine ret0 ?_
  rw [w64_id (by omega) (by omega)]
  exact hK
def c_isCh : Ctr Try.prog := ⟨62, ent Try.func62 rfl rfl, [], sp_isCh, good_isCh, []⟩
@[go_sem] theorem c_isCh_f : c_isCh.f = 62 := rfl
@[go_sem] theorem c_isCh_ms : c_isCh.ms = [] := rfl
@[go_sem] theorem c_isCh_sp : c_isCh.spec = sp_isCh := rfl
@[go_sem] theorem c_isCh_fz : c_isCh.fz = [] := rfl
attribute [go_sem] sp_isCh
set_option maxHeartbeats 4000000 in
set_option maxRecDepth 100000 in
theorem good_dcI : Good Try.prog 13 sp_dc := by
  refine good_ofF Try.func13 rfl _ rfl _ rfl (tab [c_IsWord, c_isCh, c_wt]) (fun X cs os0 K hok hos hK => ?_)
  clear hos; unfold sp_dc at hK
  split at hK
  case h_2 => exact hK.elim
  rename_i w i
  refine ⟨by simp, by simp, ?_⟩
  simp only [go_sem] at hK hok
  simp (maxSteps := 4000000) only [go_sem, Try.f13, ↓brB_t, ↓brB_f, Nat.reduceAdd, Int.reduceLE, Int.reduceLT, Int.reduceNeg, decide_true, decide_false, Bool.and_self, Nat.succ_eq_add_one, Int.toNat_natCast, Nat.beq_refl, Bool.and_true, Bool.true_and, Bool.false_or, Bool.or_true, List.all_cons, List.all_nil, Nat.reduceMul, Nat.add_zero, Nat.zero_add, List.length_nil, List.length_cons, dite_true, List.nil_append, Nat.reduceBEq, reduceDIte, reduceIte, reduceCtorEq, Bool.or_false, Bool.true_or, Bool.and_false, Bool.false_and, Bool.not_true, Bool.not_false, Option.isSome_some, Option.isSome_none, Option.getD_some, List.getElem?_cons_zero, List.getElem?_cons_succ, eq_self, and_self, List.take_succ_cons, List.take_zero, List.drop_succ_cons, List.drop_zero]
  clear hok
  have err : ∀ {c : Int}, dcR w i = ([], c) → K (.tup [.one (.own 0), .one (.v (.int .i64 c))]) [rwi []] := fun e => by rw [e] at hK; exact hK
  refine brB_intro (fun h1 => retM [⟨.reg 4 0, 16, t64, .int .i64⟩] rfl (retN [16] rfl (err (by rw [dcR, if_neg (by rw [nb h1]; decide)])))) (fun h1 => ?_)
  have h1 := nb' h1
  have hl := y_len h1
  refine ⟨by omega, brB_intro (fun h2 => retM [⟨.reg 4 0, 16, t64, .int .i64⟩] rfl (retN [16] rfl (err (by rw [dcR, if_pos h1, if_neg (by rw [nb h2]; decide)])))) (fun h2 => ?_)⟩
  have er : dcR w i = (wtL w i, 0) := by rw [dcR, if_pos h1, if_pos (nb' h2)]
  rw [er] at hK
  exact ⟨by omega, retN [288] rfl hK⟩
def c_dcI : Ctr Try.prog := ⟨13, ent Try.func13 rfl rfl, [], sp_dc, good_dcI, []⟩
@[go_sem] theorem c_dcI_f : c_dcI.f = 13 := rfl
@[go_sem] theorem c_dcI_ms : c_dcI.ms = [] := rfl
@[go_sem] theorem c_dcI_sp : c_dcI.spec = sp_dc := rfl
@[go_sem] theorem c_dcI_fz : c_dcI.fz = [] := rfl
attribute [go_sem] sp_dc
set_option maxHeartbeats 4000000 in
set_option maxRecDepth 100000 in
theorem good_dcS : Good Try.prog 27 sp_dc := by
  refine good_ofF Try.func27 rfl _ rfl _ rfl (tab [c_l01Code, c_del]) (fun X cs os0 K hok hos hK => ?_)
  clear hos; unfold sp_dc at hK
  split at hK
  case h_2 => exact hK.elim
  rename_i w i
  refine ⟨by simp, by simp, ?_⟩
  simp only [go_sem] at hK hok
  simp (maxSteps := 4000000) only [go_sem, Try.f27, ↓brB_t, ↓brB_f, Nat.reduceAdd, Int.reduceLE, Int.reduceLT, Int.reduceNeg, decide_true, decide_false, Bool.and_self, Nat.succ_eq_add_one, Int.toNat_natCast, Nat.beq_refl, Bool.and_true, Bool.true_and, Bool.false_or, Bool.or_true, List.all_cons, List.all_nil, Nat.reduceMul, Nat.add_zero, Nat.zero_add, List.length_nil, List.length_cons, dite_true, List.nil_append, Nat.reduceBEq, reduceDIte, reduceIte, reduceCtorEq, Bool.or_false, Bool.true_or, Bool.and_false, Bool.false_and, Bool.not_true, Bool.not_false, Option.isSome_some, Option.isSome_none, Option.getD_some, List.getElem?_cons_zero, List.getElem?_cons_succ, eq_self, and_self, List.take_succ_cons, List.take_zero, List.drop_succ_cons, List.drop_zero]
  clear hok
  have err : ∀ {c : Int}, dcR w i = ([], c) → K (.tup [.one (.own 0), .one (.v (.int .i64 c))]) [rwi []] := fun e => by rw [e] at hK; exact hK
  refine ⟨by decide, ?_⟩
  by_cases h1 : isW w = true
  · have hl := y_len h1
    rw [y_half hl, w64_id (by omega) (by omega)]
    by_cases h2 : inB i 0 (((w.length / 2 : Nat) : Int) - 1) = true
    · have e : codeR w i (((w.length / 2 : Nat) : Int) - 1) = 0 := by rw [codeR, if_pos h1, if_pos h2]
      have er : dcR w i = (wtL w i, 0) := by rw [dcR, if_pos h1, if_pos h2]
      rw [er] at hK
      rw [e]
      refine brB_intro (fun h => absurd h (by decide)) (fun _ => ?_)
      exact ⟨by omega, retN [320] rfl hK⟩
    · have e : codeR w i (((w.length / 2 : Nat) : Int) - 1) = 2 := by rw [codeR, if_pos h1, if_neg h2]
      rw [e]
      exact brB_intro (fun _ => retM [⟨.reg 4 0, 16, t64, .int .i64⟩] rfl (retN [16] rfl (err (by rw [dcR, if_pos h1, if_neg h2])))) (fun h => absurd h (by decide))
  · have e : codeR w i (w64 (w64 ((w.length : Int).tdiv 2) - 1)) = 1 := by rw [codeR, if_neg h1]
    rw [e]
    exact brB_intro (fun _ => retM [⟨.reg 4 0, 16, t64, .int .i64⟩] rfl (retN [16] rfl (err (by rw [dcR, if_neg h1])))) (fun h => absurd h (by decide))
def c_dcS : Ctr Try.prog := ⟨27, ent Try.func27 rfl rfl, [], sp_dc, good_dcS, []⟩
@[go_sem] theorem c_dcS_f : c_dcS.f = 27 := rfl
@[go_sem] theorem c_dcS_ms : c_dcS.ms = [] := rfl
@[go_sem] theorem c_dcS_sp : c_dcS.spec = sp_dc := rfl
@[go_sem] theorem c_dcS_fz : c_dcS.fz = [] := rfl
attribute [go_sem] sp_dc
/-! ### PlacesOf, NormalWord, CrossingRows -/
def poR (w : List Int) (i : Int) : List Int × Int := if isW w then (if inB i 0 (((w.length / 2 : Nat) : Int) - 1) then ([pl1 w i, pl2 w i], 0) else ([], 2)) else ([], 1)
def sp_po : List Cv → List Obj' → Tree
  | [.one (.ro (.int .i64) w), .one (.v (.int .i64 i))], [] => resU (poR w i)
  | _, _ => .fail
set_option maxHeartbeats 4000000 in
set_option maxRecDepth 100000 in
theorem good_poI : Good Try.prog 29 sp_po := by
  refine good_ofF Try.func29 rfl _ rfl _ rfl (tab [c_IsWord, c_isCh, c_places]) (fun X cs os0 K hok hos hK => ?_)
  clear hos; unfold sp_po at hK
  split at hK
  case h_2 => exact hK.elim
  rename_i w i
  refine ⟨by simp, by simp, ?_⟩
  simp only [go_sem] at hK hok
  simp (maxSteps := 4000000) only [go_sem, Try.f29, ↓brB_t, ↓brB_f, Nat.reduceAdd, Int.reduceLE, Int.reduceLT, Int.reduceNeg, decide_true, decide_false, Bool.and_self, Nat.succ_eq_add_one, Int.toNat_natCast, Nat.beq_refl, Bool.and_true, Bool.true_and, Bool.false_or, Bool.or_true, List.all_cons, List.all_nil, Nat.reduceMul, Nat.add_zero, Nat.zero_add, List.length_nil, List.length_cons, dite_true, List.nil_append, Nat.reduceBEq, reduceDIte, reduceIte, reduceCtorEq, Bool.or_false, Bool.true_or, Bool.and_false, Bool.false_and, Bool.not_true, Bool.not_false, Option.isSome_some, Option.isSome_none, Option.getD_some, List.getElem?_cons_zero, List.getElem?_cons_succ, eq_self, and_self, List.take_succ_cons, List.take_zero, List.drop_succ_cons, List.drop_zero]
  clear hok
  have err : ∀ {c : Int}, poR w i = ([], c) → K (.tup [.one (.own 0), .one (.v (.int .i64 c))]) [rwi []] := fun e => by rw [e] at hK; exact hK
  refine brB_intro (fun h1 => retM [⟨.reg 4 0, 16, t64, .int .i64⟩] rfl (retN [16] rfl (err (by rw [poR, if_neg (by rw [nb h1]; decide)])))) (fun h1 => ?_)
  have h1 := nb' h1
  have hl := y_len h1
  refine ⟨by omega, brB_intro (fun h2 => retM [⟨.reg 4 0, 16, t64, .int .i64⟩] rfl (retN [16] rfl (err (by rw [poR, if_pos h1, if_neg (by rw [nb h2]; decide)])))) (fun h2 => ?_)⟩
  have er : poR w i = ([pl1 w i, pl2 w i], 0) := by rw [poR, if_pos h1, if_pos (nb' h2)]
  rw [er] at hK
  have a := inU (nb' h2)
  exact ⟨⟨by omega, y_two h1 a.1 (by omega)⟩, retN [416] rfl hK⟩
def c_poI : Ctr Try.prog := ⟨29, ent Try.func29 rfl rfl, [], sp_po, good_poI, []⟩
@[go_sem] theorem c_poI_f : c_poI.f = 29 := rfl
@[go_sem] theorem c_poI_ms : c_poI.ms = [] := rfl
@[go_sem] theorem c_poI_sp : c_poI.spec = sp_po := rfl
@[go_sem] theorem c_poI_fz : c_poI.fz = [] := rfl
attribute [go_sem] sp_po
set_option maxHeartbeats 4000000 in
set_option maxRecDepth 100000 in
theorem good_poS : Good Try.prog 30 sp_po := by
  refine good_ofF Try.func30 rfl _ rfl _ rfl (tab [c_l01Code, c_l01Places]) (fun X cs os0 K hok hos hK => ?_)
  clear hos; unfold sp_po at hK
  split at hK
  case h_2 => exact hK.elim
  rename_i w i
  refine ⟨by simp, by simp, ?_⟩
  simp only [go_sem] at hK hok
  simp (maxSteps := 4000000) only [go_sem, Try.f30, ↓brB_t, ↓brB_f, Nat.reduceAdd, Int.reduceLE, Int.reduceLT, Int.reduceNeg, decide_true, decide_false, Bool.and_self, Nat.succ_eq_add_one, Int.toNat_natCast, Nat.beq_refl, Bool.and_true, Bool.true_and, Bool.false_or, Bool.or_true, List.all_cons, List.all_nil, Nat.reduceMul, Nat.add_zero, Nat.zero_add, List.length_nil, List.length_cons, dite_true, List.nil_append, Nat.reduceBEq, reduceDIte, reduceIte, reduceCtorEq, Bool.or_false, Bool.true_or, Bool.and_false, Bool.false_and, Bool.not_true, Bool.not_false, Option.isSome_some, Option.isSome_none, Option.getD_some, List.getElem?_cons_zero, List.getElem?_cons_succ, eq_self, and_self, List.take_succ_cons, List.take_zero, List.drop_succ_cons, List.drop_zero]
  clear hok
  have err : ∀ {c : Int}, poR w i = ([], c) → K (.tup [.one (.own 0), .one (.v (.int .i64 c))]) [rwi []] := fun e => by rw [e] at hK; exact hK
  refine ⟨by decide, ?_⟩
  by_cases h1 : isW w = true
  · have hl := y_len h1
    rw [y_half hl, w64_id (by omega) (by omega)]
    by_cases h2 : inB i 0 (((w.length / 2 : Nat) : Int) - 1) = true
    · have e : codeR w i (((w.length / 2 : Nat) : Int) - 1) = 0 := by rw [codeR, if_pos h1, if_pos h2]
      have er : poR w i = ([pl1 w i, pl2 w i], 0) := by rw [poR, if_pos h1, if_pos h2]
      rw [er] at hK
      rw [e]
      refine brB_intro (fun h => absurd h (by decide)) (fun _ => ?_)
      have a := inU h2
      exact ⟨⟨by omega, y_two h1 a.1 (by omega)⟩, retN [448] rfl hK⟩
    · have e : codeR w i (((w.length / 2 : Nat) : Int) - 1) = 2 := by rw [codeR, if_pos h1, if_neg h2]
      rw [e]
      exact brB_intro (fun _ => retM [⟨.reg 4 0, 16, t64, .int .i64⟩] rfl (retN [16] rfl (err (by rw [poR, if_pos h1, if_neg h2])))) (fun h => absurd h (by decide))
  · have e : codeR w i (w64 (w64 ((w.length : Int).tdiv 2) - 1)) = 1 := by rw [codeR, if_neg h1]
    rw [e]
    exact brB_intro (fun _ => retM [⟨.reg 4 0, 16, t64, .int .i64⟩] rfl (retN [16] rfl (err (by rw [poR, if_neg h1])))) (fun h => absurd h (by decide))
def c_poS : Ctr Try.prog := ⟨30, ent Try.func30 rfl rfl, [], sp_po, good_poS, []⟩
@[go_sem] theorem c_poS_f : c_poS.f = 30 := rfl
@[go_sem] theorem c_poS_ms : c_poS.ms = [] := rfl
@[go_sem] theorem c_poS_sp : c_poS.spec = sp_po := rfl
@[go_sem] theorem c_poS_fz : c_poS.fz = [] := rfl
attribute [go_sem] sp_po
def nwR (l : List Int) : List Int × Int := if decide (l.length ≤ 12) && Go.Proofs.Ytbnmjhcokdhjmaa.K.twiceL l then (Go.Proofs.Ytbnmjhcokdhjmaa.K.normalL l, 0) else ([], 2)
def sp_nw : List Cv → List Obj' → Tree
  | [.one (.ro (.int .i64) l)], [] => resU (nwR l)
  | _, _ => .fail
set_option maxHeartbeats 4000000 in
set_option maxRecDepth 100000 in
theorem good_nwI : Good Try.prog 32 sp_nw := by
  refine good_ofF Try.func32 rfl _ rfl _ rfl (tab [c_twice, c_normal]) (fun X cs os0 K hok hos hK => ?_)
  clear hos; unfold sp_nw at hK
  split at hK
  case h_2 => exact hK.elim
  rename_i l
  refine ⟨by simp, by simp, ?_⟩
  simp only [go_sem] at hK hok
  simp (maxSteps := 4000000) only [go_sem, Try.f32, ↓brB_t, ↓brB_f, Nat.reduceAdd, Int.reduceLE, Int.reduceLT, Int.reduceNeg, decide_true, decide_false, Bool.and_self, Nat.succ_eq_add_one, Int.toNat_natCast, Nat.beq_refl, Bool.and_true, Bool.true_and, Bool.false_or, Bool.or_true, List.all_cons, List.all_nil, Nat.reduceMul, Nat.add_zero, Nat.zero_add, List.length_nil, List.length_cons, dite_true, List.nil_append, Nat.reduceBEq, reduceDIte, reduceIte, reduceCtorEq, Bool.or_false, Bool.true_or, Bool.and_false, Bool.false_and, Bool.not_true, Bool.not_false, Option.isSome_some, Option.isSome_none, Option.getD_some, List.getElem?_cons_zero, List.getElem?_cons_succ, eq_self, and_self, List.take_succ_cons, List.take_zero, List.drop_succ_cons, List.drop_zero]
  clear hok
  have err : ∀ {c : Int}, nwR l = ([], c) → K (.tup [.one (.own 0), .one (.v (.int .i64 c))]) [rwi []] := fun e => by rw [e] at hK; exact hK
  refine brB_intro (fun h1 => retM [⟨.reg 2 0, 16, t64, .int .i64⟩] rfl (retN [16] rfl (err (by rw [nwR, decide_eq_false (by have := of_decide_eq_true h1; omega)]; rfl)))) (fun h1 => ?_)
  have h1 : l.length ≤ 12 := by have := of_decide_eq_false h1; omega
  refine ⟨by omega, brB_intro (fun h2 => retM [⟨.reg 2 0, 16, t64, .int .i64⟩] rfl (retN [16] rfl (err (by rw [nwR, decide_eq_true h1, nb h2]; rfl)))) (fun h2 => ?_)⟩
  have er : nwR l = (Go.Proofs.Ytbnmjhcokdhjmaa.K.normalL l, 0) := by rw [nwR, decide_eq_true h1, nb' h2]; rfl
  rw [er] at hK
  exact ⟨by omega, retN [224] rfl hK⟩
def c_nwI : Ctr Try.prog := ⟨32, ent Try.func32 rfl rfl, [], sp_nw, good_nwI, []⟩
@[go_sem] theorem c_nwI_f : c_nwI.f = 32 := rfl
@[go_sem] theorem c_nwI_ms : c_nwI.ms = [] := rfl
@[go_sem] theorem c_nwI_sp : c_nwI.spec = sp_nw := rfl
@[go_sem] theorem c_nwI_fz : c_nwI.fz = [] := rfl
attribute [go_sem] sp_nw
set_option maxHeartbeats 4000000 in
set_option maxRecDepth 100000 in
theorem good_nwS : Good Try.prog 33 sp_nw := by
  refine good_ofF Try.func33 rfl _ rfl _ rfl (tab [c_l01Twice, c_l01Normal]) (fun X cs os0 K hok hos hK => ?_)
  clear hos; unfold sp_nw at hK
  split at hK
  case h_2 => exact hK.elim
  rename_i l
  refine ⟨by simp, by simp, ?_⟩
  simp only [go_sem] at hK hok
  simp (maxSteps := 4000000) only [go_sem, Try.f33, ↓brB_t, ↓brB_f, Nat.reduceAdd, Int.reduceLE, Int.reduceLT, Int.reduceNeg, decide_true, decide_false, Bool.and_self, Nat.succ_eq_add_one, Int.toNat_natCast, Nat.beq_refl, Bool.and_true, Bool.true_and, Bool.false_or, Bool.or_true, List.all_cons, List.all_nil, Nat.reduceMul, Nat.add_zero, Nat.zero_add, List.length_nil, List.length_cons, dite_true, List.nil_append, Nat.reduceBEq, reduceDIte, reduceIte, reduceCtorEq, Bool.or_false, Bool.true_or, Bool.and_false, Bool.false_and, Bool.not_true, Bool.not_false, Option.isSome_some, Option.isSome_none, Option.getD_some, List.getElem?_cons_zero, List.getElem?_cons_succ, eq_self, and_self, List.take_succ_cons, List.take_zero, List.drop_succ_cons, List.drop_zero]
  clear hok
  have err : ∀ {c : Int}, nwR l = ([], c) → K (.tup [.one (.own 0), .one (.v (.int .i64 c))]) [rwi []] := fun e => by rw [e] at hK; exact hK
  refine brB_intro (fun h1 => retM [⟨.reg 2 0, 16, t64, .int .i64⟩] rfl (retN [16] rfl (err (by rw [nwR, decide_eq_false (by have := of_decide_eq_true h1; omega)]; rfl)))) (fun h1 => ?_)
  have h1 : l.length ≤ 12 := by have := of_decide_eq_false h1; omega
  refine ⟨by omega, brB_intro (fun h2 => retM [⟨.reg 2 0, 16, t64, .int .i64⟩] rfl (retN [16] rfl (err (by rw [nwR, decide_eq_true h1, nb h2]; rfl)))) (fun h2 => ?_)⟩
  have er : nwR l = (Go.Proofs.Ytbnmjhcokdhjmaa.K.normalL l, 0) := by rw [nwR, decide_eq_true h1, nb' h2]; rfl
  rw [er] at hK
  exact ⟨by omega, retN [224] rfl hK⟩
def c_nwS : Ctr Try.prog := ⟨33, ent Try.func33 rfl rfl, [], sp_nw, good_nwS, []⟩
@[go_sem] theorem c_nwS_f : c_nwS.f = 33 := rfl
@[go_sem] theorem c_nwS_ms : c_nwS.ms = [] := rfl
@[go_sem] theorem c_nwS_sp : c_nwS.spec = sp_nw := rfl
@[go_sem] theorem c_nwS_fz : c_nwS.fz = [] := rfl
attribute [go_sem] sp_nw
end Go.Proofs.Ytbnmjhcokdhjmaa.V
