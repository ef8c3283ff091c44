/- Contracts: the law's own functions of Gauss words. Conditions: told by each spec. Contracts: Gauss words by the reference: put in, made normal. Conditions: told by each spec. Contracts: orders and normal Gauss words by the reference. Conditions: told by each spec. Contracts: normal Gauss words by the reference. Conditions: told by each spec. -/
import Derived.Test.YtihfncjpfgdhoaaVW2
set_option linter.unusedVariables false
set_option linter.unusedSimpArgs false
namespace Go.Proofs.Ytihfncjpfgdhoaa.V
open Go
def sp_gch : List Cv → List Obj' → Tree
  | [.one (.ptr 0 0)], [.box t [.ro (.int .i64) w, .ro (.int .i64) hs, .ro (.int .i64) ss]] => .ret (vi ((w.length / 2 : Nat) : Int)) [.box t [.ro (.int .i64) w, .ro (.int .i64) hs, .ro (.int .i64) ss]]
  | _, _ => .fail
set_option maxHeartbeats 4000000 in
set_option maxRecDepth 100000 in
theorem good_gch : Good Try.prog 78 sp_gch := by
  refine good_ofF Try.func78 rfl _ rfl _ rfl (tab [c_chords]) (fun X cs os0 K hok hos hK => ?_)
  unfold sp_gch at hK
  split at hK
  case h_2 => exact hK.elim
  rename_i t w hs ss
  refine ⟨by simp, by simp, ?_⟩
  simp only [go_sem] at hK hok hos
  simp (maxSteps := 4000000) only [go_sem, Try.f78, ↓brB_t, ↓brB_f, Nat.reduceAdd, Int.reduceLE, Int.reduceLT, Int.reduceNeg, decide_true, decide_false, Bool.and_self, Nat.succ_eq_add_one, Int.toNat_natCast, Nat.beq_refl, Bool.and_true, Bool.true_and, Bool.false_or, Bool.or_true, List.all_cons, List.all_nil, Nat.reduceMul, Nat.add_zero, Nat.zero_add, List.length_nil, List.length_cons, dite_true, List.nil_append, Nat.reduceBEq, reduceDIte, reduceIte, reduceCtorEq, Bool.or_false, Bool.true_or, Bool.and_false, Bool.false_and, Bool.not_true, Bool.not_false, Option.isSome_some, Option.isSome_none, Option.getD_some, List.getElem?_cons_zero, List.getElem?_cons_succ, eq_self, and_self, List.take_succ_cons, List.take_zero, List.drop_succ_cons, List.drop_zero]
  exact retN [0] rfl hK
def c_gch : Ctr Try.prog := ⟨78, ent Try.func78 rfl rfl, [true], sp_gch, good_gch⟩
@[go_sem] theorem c_gch_f : c_gch.f = 78 := rfl
@[go_sem] theorem c_gch_ms : c_gch.ms = [true] := rfl
@[go_sem] theorem c_gch_sp : c_gch.spec = sp_gch := rfl
attribute [go_sem] sp_gch
def sp_eqG : List Cv → List Obj' → Tree
  | [.agg [.ro (.int .i64) w, .ro (.int .i64) hs, .ro (.int .i64) ss], .agg [.ro (.int .i64) w', .ro (.int .i64) hs', .ro (.int .i64) ss']], [] => .ret (vb (decide ((w : List Int) = w') && (decide ((hs : List Int) = hs') && decide ((ss : List Int) = ss')))) []
  | _, _ => .fail
set_option maxHeartbeats 4000000 in
set_option maxRecDepth 100000 in
theorem good_eqG : Good Try.prog 25 sp_eqG := by
  refine good_ofF Try.func25 rfl _ rfl _ rfl (tab [c_eqS]) (fun X cs os0 K hok hos hK => ?_)
  clear hos; unfold sp_eqG at hK
  split at hK
  case h_2 => exact hK.elim
  rename_i w hs ss w' hs' ss'
  refine ⟨by simp, by simp, ?_⟩
  simp only [go_sem] at hK hok
  simp (maxSteps := 4000000) only [go_sem, Try.f25, ↓brB_t, ↓brB_f, Nat.reduceAdd, Int.reduceLE, Int.reduceLT, Int.reduceNeg, decide_true, decide_false, Bool.and_self, Nat.succ_eq_add_one, Int.toNat_natCast, Nat.beq_refl, Bool.and_true, Bool.true_and, Bool.false_or, Bool.or_true, List.all_cons, List.all_nil, Nat.reduceMul, Nat.add_zero, Nat.zero_add, List.length_nil, List.length_cons, dite_true, List.nil_append, Nat.reduceBEq, reduceDIte, reduceIte, reduceCtorEq, Bool.or_false, Bool.true_or, Bool.and_false, Bool.false_and, Bool.not_true, Bool.not_false, Option.isSome_some, Option.isSome_none, Option.getD_some, List.getElem?_cons_zero, List.getElem?_cons_succ, eq_self, and_self, List.take_succ_cons, List.take_zero, List.drop_succ_cons, List.drop_zero]
  refine brB_intro (fun h => ret0 (by rw [nb h] at hK; exact hK)) (fun h => brB_intro (fun h2 => ret0 (by rw [nb' h, nb h2] at hK; exact hK)) (fun h2 => brB_intro (fun h3 => ret0 (by rw [nb' h, nb' h2, nb h3] at hK; exact hK)) (fun h3 => ret0 (by rw [nb' h, nb' h2, nb' h3] at hK; exact hK))))
def c_eqG : Ctr Try.prog := ⟨25, ent Try.func25 rfl rfl, [], sp_eqG, good_eqG⟩
@[go_sem] theorem c_eqG_f : c_eqG.f = 25 := rfl
@[go_sem] theorem c_eqG_ms : c_eqG.ms = [] := rfl
@[go_sem] theorem c_eqG_sp : c_eqG.spec = sp_eqG := rfl
attribute [go_sem] sp_eqG
def sp_toG : List Cv → List Obj' → Tree
  | [.agg [.ro (.int .i64) w, .ro (.int .i64) hs, .ro (.int .i64) ss]], [] => .need (w.length ≤ 1099511627776 ∧ hs.length ≤ 1099511627776 ∧ ss.length ≤ 1099511627776) (.ret (.val (.agg [.own 0, .own 1, .own 2])) [rwi w, rwi hs, rwi ss])
  | _, _ => .fail
set_option maxHeartbeats 4000000 in
set_option maxRecDepth 100000 in
theorem good_toG : Good Try.prog 23 sp_toG := by
  refine good_ofF Try.func23 rfl _ rfl _ rfl (tab [c_to]) (fun X cs os0 K hok hos hK => ?_)
  clear hos; unfold sp_toG at hK
  split at hK
  case h_2 => exact hK.elim
  rename_i w hs ss
  refine ⟨by simp, by simp, ?_⟩
  simp only [go_sem] at hK hok
  simp (maxSteps := 4000000) only [go_sem, Try.f23, ↓brB_t, ↓brB_f, Nat.reduceAdd, Int.reduceLE, Int.reduceLT, Int.reduceNeg, decide_true, decide_false, Bool.and_self, Nat.succ_eq_add_one, Int.toNat_natCast, Nat.beq_refl, Bool.and_true, Bool.true_and, Bool.false_or, Bool.or_true, List.all_cons, List.all_nil, Nat.reduceMul, Nat.add_zero, Nat.zero_add, List.length_nil, List.length_cons, dite_true, List.nil_append, Nat.reduceBEq, reduceDIte, reduceIte, reduceCtorEq, Bool.or_false, Bool.true_or, Bool.and_false, Bool.false_and, Bool.not_true, Bool.not_false, Option.isSome_some, Option.isSome_none, Option.getD_some, List.getElem?_cons_zero, List.getElem?_cons_succ, eq_self, and_self, List.take_succ_cons, List.take_zero, List.drop_succ_cons, List.drop_zero]
  obtain ⟨⟨h1, h2, h3⟩, hK⟩ := hK
  exact ⟨h1, h2, h3, retN [112, 176, 240] rfl hK⟩
def c_toG : Ctr Try.prog := ⟨23, ent Try.func23 rfl rfl, [], sp_toG, good_toG⟩
@[go_sem] theorem c_toG_f : c_toG.f = 23 := rfl
@[go_sem] theorem c_toG_ms : c_toG.ms = [] := rfl
@[go_sem] theorem c_toG_sp : c_toG.spec = sp_toG := rfl
attribute [go_sem] sp_toG
def sp_markG : List Cv → List Obj' → Tree
  | [.agg [.own 0, .own 1, .own 2], .one (.v (.int .i64 k))], [.row t (.int .i64) w, .row t2 (.int .i64) hs, .row t3 (.int .i64) ss] => .need (0 ≤ k ∧ k + w.length + hs.length + ss.length ≤ 1099511627776) (.ret (vi (k + w.length + hs.length + ss.length)) [.row t (.int .i64) (marks k w.length), .row t2 (.int .i64) (marks (k + w.length) hs.length), .row t3 (.int .i64) (marks (k + w.length + hs.length) ss.length)])
  | _, _ => .fail
set_option maxHeartbeats 4000000 in
set_option maxRecDepth 100000 in
theorem good_markG : Good Try.prog 30 sp_markG := by
  refine good_ofF Try.func30 rfl _ rfl _ rfl (tab [c_mark]) (fun X cs os0 K hok hos hK => ?_)
  unfold sp_markG at hK
  split at hK
  case h_2 => exact hK.elim
  rename_i k t w t2 hs t3 ss
  refine ⟨by simp, by simp, ?_⟩
  simp only [go_sem] at hK hok hos
  simp (maxSteps := 4000000) only [go_sem, Try.f30, ↓brB_t, ↓brB_f, Nat.reduceAdd, Int.reduceLE, Int.reduceLT, Int.reduceNeg, decide_true, decide_false, Bool.and_self, Nat.succ_eq_add_one, Int.toNat_natCast, Nat.beq_refl, Bool.and_true, Bool.true_and, Bool.false_or, Bool.or_true, List.all_cons, List.all_nil, Nat.reduceMul, Nat.add_zero, Nat.zero_add, List.length_nil, List.length_cons, dite_true, List.nil_append, Nat.reduceBEq, reduceDIte, reduceIte, reduceCtorEq, Bool.or_false, Bool.true_or, Bool.and_false, Bool.false_and, Bool.not_true, Bool.not_false, Option.isSome_some, Option.isSome_none, Option.getD_some, List.getElem?_cons_zero, List.getElem?_cons_succ, eq_self, and_self, List.take_succ_cons, List.take_zero, List.drop_succ_cons, List.drop_zero]
  obtain ⟨⟨hk0, hk1⟩, hK⟩ := hK
  refine ⟨⟨by omega, by omega, by omega⟩, ⟨by omega, by omega, by omega⟩, ⟨by omega, by omega, by omega⟩, retN [0, 1, 2] rfl hK⟩
def c_markG : Ctr Try.prog := ⟨30, ent Try.func30 rfl rfl, [true], sp_markG, good_markG⟩
@[go_sem] theorem c_markG_f : c_markG.f = 30 := rfl
@[go_sem] theorem c_markG_ms : c_markG.ms = [true] := rfl
@[go_sem] theorem c_markG_sp : c_markG.spec = sp_markG := rfl
attribute [go_sem] sp_markG
def sp_szG : List Cv → List Obj' → Tree
  | [.agg [.ro (.int .i64) w, .ro (.int .i64) hs, .ro (.int .i64) ss], .one (.v (.int .i64 n))], [] => .need (0 ≤ n) (.ret (vi (if n < w.length + hs.length + ss.length then -1 else n - w.length - hs.length - ss.length)) [])
  | _, _ => .fail
set_option maxHeartbeats 4000000 in
set_option maxRecDepth 100000 in
theorem good_szG : Good Try.prog 21 sp_szG := by
  refine good_ofF Try.func21 rfl _ rfl _ rfl (tab [c_sz]) (fun X cs os0 K hok hos hK => ?_)
  clear hos; unfold sp_szG at hK
  split at hK
  case h_2 => exact hK.elim
  rename_i w hs ss n
  refine ⟨by simp, by simp, ?_⟩
  simp only [go_sem] at hK hok
  simp (maxSteps := 4000000) only [go_sem, Try.f21, ↓brB_t, ↓brB_f, Nat.reduceAdd, Int.reduceLE, Int.reduceLT, Int.reduceNeg, decide_true, decide_false, Bool.and_self, Nat.succ_eq_add_one, Int.toNat_natCast, Nat.beq_refl, Bool.and_true, Bool.true_and, Bool.false_or, Bool.or_true, List.all_cons, List.all_nil, Nat.reduceMul, Nat.add_zero, Nat.zero_add, List.length_nil, List.length_cons, dite_true, List.nil_append, Nat.reduceBEq, reduceDIte, reduceIte, reduceCtorEq, Bool.or_false, Bool.true_or, Bool.and_false, Bool.false_and, Bool.not_true, Bool.not_false, Option.isSome_some, Option.isSome_none, Option.getD_some, List.getElem?_cons_zero, List.getElem?_cons_succ, eq_self, and_self, List.take_succ_cons, List.take_zero, List.drop_succ_cons, List.drop_zero]
  obtain ⟨hn, hK⟩ := hK
  have a1 : ∀ {x m : Int}, 0 ≤ x → decide ((if x < m then (-1 : Int) else x - m) < 0) = true → x < m := fun {x m} hx h => by
    have h := of_decide_eq_true h; split at h <;> omega
  have a2 : ∀ {x m : Int}, 0 ≤ x → decide ((if x < m then (-1 : Int) else x - m) < 0) = false → ¬ x < m := fun {x m} hx h => by
    have h := of_decide_eq_false h; split at h <;> omega
  refine ⟨hn, brB_intro (fun h => ret0 ?_) (fun h => ?_)⟩
  · have := a1 hn h
    rw [if_pos (by omega)] at hK; exact hK
  · have b1 := a2 hn h
    simp only [if_neg b1]
    refine ⟨by omega, brB_intro (fun h2 => ret0 ?_) (fun h2 => ?_)⟩
    · have := a1 (by omega) h2
      rw [if_pos (by omega)] at hK; exact hK
    · have b2 := a2 (by omega) h2
      simp only [if_neg b2]
      refine ⟨by omega, brB_intro (fun h3 => ret0 ?_) (fun h3 => ret0 ?_)⟩
      · have := a1 (by omega) h3
        rw [if_pos (by omega)] at hK; exact hK
      · have b3 := a2 (by omega) h3
        rw [if_neg (by omega)] at hK
        simp only [if_neg b3]; exact hK
def c_szG : Ctr Try.prog := ⟨21, ent Try.func21 rfl rfl, [], sp_szG, good_szG⟩
@[go_sem] theorem c_szG_f : c_szG.f = 21 := rfl
@[go_sem] theorem c_szG_ms : c_szG.ms = [] := rfl
@[go_sem] theorem c_szG_sp : c_szG.spec = sp_szG := rfl
attribute [go_sem] sp_szG
def sp_heldG : List Cv → List Obj' → Tree
  | [.agg [.ro (.int .i64) w, .ro (.int .i64) hs, .ro (.int .i64) ss], .one (.v (.int .i64 k))], [] => .need (0 ≤ k ∧ k + w.length + hs.length + ss.length ≤ 1099511627776) (.ret (vi (if ((w : List Int) = marks k w.length ∧ (hs : List Int) = marks (k + w.length) hs.length) ∧ (ss : List Int) = marks (k + w.length + hs.length) ss.length then k + w.length + hs.length + ss.length else -1)) [])
  | _, _ => .fail
set_option maxHeartbeats 4000000 in
set_option maxRecDepth 100000 in
theorem good_heldG : Good Try.prog 31 sp_heldG := by
  refine good_ofF Try.func31 rfl _ rfl _ rfl (tab [c_held]) (fun X cs os0 K hok hos hK => ?_)
  clear hos; unfold sp_heldG at hK
  split at hK
  case h_2 => exact hK.elim
  rename_i w hs ss k
  refine ⟨by simp, by simp, ?_⟩
  simp only [go_sem] at hK hok
  simp (maxSteps := 4000000) only [go_sem, Try.f31, ↓brB_t, ↓brB_f, Nat.reduceAdd, Int.reduceLE, Int.reduceLT, Int.reduceNeg, decide_true, decide_false, Bool.and_self, Nat.succ_eq_add_one, Int.toNat_natCast, Nat.beq_refl, Bool.and_true, Bool.true_and, Bool.false_or, Bool.or_true, List.all_cons, List.all_nil, Nat.reduceMul, Nat.add_zero, Nat.zero_add, List.length_nil, List.length_cons, dite_true, List.nil_append, Nat.reduceBEq, reduceDIte, reduceIte, reduceCtorEq, Bool.or_false, Bool.true_or, Bool.and_false, Bool.false_and, Bool.not_true, Bool.not_false, Option.isSome_some, Option.isSome_none, Option.getD_some, List.getElem?_cons_zero, List.getElem?_cons_succ, eq_self, and_self, List.take_succ_cons, List.take_zero, List.drop_succ_cons, List.drop_zero]
  obtain ⟨⟨hk0, hk1⟩, hK⟩ := hK
  refine ⟨⟨by omega, by omega, by omega⟩, ?_⟩
  by_cases h1 : w = marks k w.length
  · simp only [if_pos h1]
    refine brB_intro (fun h => by have := of_decide_eq_true h; omega) (fun _ => ⟨⟨by omega, by omega, by omega⟩, ?_⟩)
    by_cases h2 : hs = marks (k + w.length) hs.length
    · simp only [if_pos h2]
      refine brB_intro (fun h => by have := of_decide_eq_true h; omega) (fun _ => ⟨⟨by omega, by omega, by omega⟩, ?_⟩)
      by_cases h3 : ss = marks (k + w.length + hs.length) ss.length
      · simp only [if_pos h3]
        refine brB_intro (fun h => by have := of_decide_eq_true h; omega) (fun _ => ret0 ?_)
        rw [if_pos ⟨⟨h1, h2⟩, h3⟩] at hK; exact hK
      · simp only [if_neg h3]
        refine brB_intro (fun _ => ret0 ?_) (fun h => by have := of_decide_eq_false h; omega)
        rw [if_neg (fun e => h3 e.2)] at hK; exact hK
    · simp only [if_neg h2]
      refine brB_intro (fun _ => ret0 ?_) (fun h => by have := of_decide_eq_false h; omega)
      rw [if_neg (fun e => h2 e.1.2)] at hK; exact hK
  · simp only [if_neg h1]
    refine brB_intro (fun _ => ret0 ?_) (fun h => by have := of_decide_eq_false h; omega)
    rw [if_neg (fun e => h1 e.1.1)] at hK; exact hK
def c_heldG : Ctr Try.prog := ⟨31, ent Try.func31 rfl rfl, [], sp_heldG, good_heldG⟩
@[go_sem] theorem c_heldG_f : c_heldG.f = 31 := rfl
@[go_sem] theorem c_heldG_ms : c_heldG.ms = [] := rfl
@[go_sem] theorem c_heldG_sp : c_heldG.spec = sp_heldG := rfl
attribute [go_sem] sp_heldG
end Go.Proofs.Ytihfncjpfgdhoaa.V

set_option linter.unusedVariables false
set_option linter.unusedSimpArgs false
namespace Go.Proofs.Ytihfncjpfgdhoaa.V
open Go
def sp_l07Insert : List Cv → List Obj' → Tree
  | [.one (.ro (.int .i64) l), .one (.v (.int .i64 p)), .one (.ro (.int .i64) m)], [] => .need (0 ≤ p ∧ p ≤ l.length ∧ l.length + m.length < 1099511627776) (.ret (ow 0) [rwi (Go.Proofs.Ytihfncjpfgdhoaa.K.insL l m p.toNat)])
  | _, _ => .fail
set_option maxHeartbeats 4000000 in
set_option maxRecDepth 100000 in
theorem good_l07Insert : Good Try.prog 75 sp_l07Insert := by
  refine good_ofF Try.func75 rfl _ rfl _ rfl (tab [c_own]) (fun X cs os0 K hok hos hK => ?_)
  clear hos; unfold sp_l07Insert at hK
  split at hK
  case h_2 => exact hK.elim
  rename_i l p m
  refine ⟨by simp, by simp, ?_⟩
  simp only [go_sem] at hK hok
  simp (maxSteps := 4000000) only [go_sem, Try.f75, ↓brB_t, ↓brB_f, Nat.reduceAdd, Int.reduceLE, Int.reduceLT, Int.reduceNeg, decide_true, decide_false, Bool.and_self, Nat.succ_eq_add_one, Int.toNat_natCast, Nat.beq_refl, Bool.and_true, Bool.true_and, Bool.false_or, Bool.or_true, List.all_cons, List.all_nil, Nat.reduceMul, Nat.add_zero, Nat.zero_add, List.length_nil, List.length_cons, dite_true, List.nil_append, Nat.reduceBEq, reduceDIte, reduceIte, reduceCtorEq, Bool.or_false, Bool.true_or, Bool.and_false, Bool.false_and, Bool.not_true, Bool.not_false, Option.isSome_some, Option.isSome_none, Option.getD_some, List.getElem?_cons_zero, List.getElem?_cons_succ, eq_self, and_self, List.take_succ_cons, List.take_zero, List.drop_succ_cons, List.drop_zero]
  obtain ⟨⟨h0, h1, h2⟩, hK⟩ := hK
  have e1 : (l.take p.toNat).length = p.toNat := by rw [List.length_take]; omega
  have e2 : (l.take p.toNat ++ m).length = p.toNat + m.length := by rw [List.length_append, e1]
  have e3 : (l.drop p.toNat).length = l.length - p.toNat := by rw [List.length_drop]
  refine ⟨⟨h0, h1⟩, by omega, by omega, ⟨h0, h1⟩, by omega, retN [304] rfl hK⟩
def c_l07Insert : Ctr Try.prog := ⟨75, ent Try.func75 rfl rfl, [], sp_l07Insert, good_l07Insert⟩
@[go_sem] theorem c_l07Insert_f : c_l07Insert.f = 75 := rfl
@[go_sem] theorem c_l07Insert_ms : c_l07Insert.ms = [] := rfl
@[go_sem] theorem c_l07Insert_sp : c_l07Insert.spec = sp_l07Insert := rfl
attribute [go_sem] sp_l07Insert
theorem all_s {l : List Int} {p : Int → Bool} {i : Nat} (h : (l.take i).all p = true) (hi : i < l.length) (hp : p (l.getD i 0) = true) : (l.take (i + 1)).all p = true := by
  rw [List.take_succ_eq_append_getElem hi, List.all_append, h, ← getD_eq hi]; simp only [List.all_cons, List.all_nil, Bool.and_true, Bool.true_and]; exact hp
theorem all_n {l : List Int} {p : Int → Bool} {i : Nat} (hi : i < l.length) (hp : p (l.getD i 0) = false) : l.all p = false := by
  rw [← Bool.not_eq_true, List.all_eq_true]
  intro h
  rw [h _ (getD_mem hi)] at hp
  cases hp
set_option maxHeartbeats 4000000 in
set_option maxRecDepth 100000 in
theorem good_l07Is : Good Try.prog 56 sp_isG := by
  refine good_ofF Try.func56 rfl _ rfl _ rfl (tab [c_l01Is, c_l01In]) (fun X cs os0 K hok hos hK => ?_)
  clear hos; unfold sp_isG at hK
  split at hK
  case h_2 => exact hK.elim
  rename_i w hs ss
  refine ⟨by simp, by simp, ?_⟩
  simp only [go_sem] at hK hok
  simp (maxSteps := 4000000) only [go_sem, Try.f56, ↓brB_t, ↓brB_f, Nat.reduceAdd, Int.reduceLE, Int.reduceLT, Int.reduceNeg, decide_true, decide_false, Bool.and_self, Nat.succ_eq_add_one, Int.toNat_natCast, Nat.beq_refl, Bool.and_true, Bool.true_and, Bool.false_or, Bool.or_true, List.all_cons, List.all_nil, Nat.reduceMul, Nat.add_zero, Nat.zero_add, List.length_nil, List.length_cons, dite_true, List.nil_append, Nat.reduceBEq, reduceDIte, reduceIte, reduceCtorEq, Bool.or_false, Bool.true_or, Bool.and_false, Bool.false_and, Bool.not_true, Bool.not_false, Option.isSome_some, Option.isSome_none, Option.getD_some, List.getElem?_cons_zero, List.getElem?_cons_succ, eq_self, and_self, List.take_succ_cons, List.take_zero, List.drop_succ_cons, List.drop_zero]
  have hl := len_i hok.1.1.1
  simp only [half hl]
  have d1 : isW w = true → ∀ c, decide (hs.length = w.length / 2) = c → isG w hs ss = (c && (decide (ss.length = w.length / 2) && (hs.all (inB · 0 1) && ss.all sgn))) := fun h c e => by rw [isG, h, e]; rfl
  refine ⟨by decide, brB_intro (fun h => ret0 (by rw [isG, nb h] at hK; exact hK)) (fun h => brB_intro (fun h2 => ret0 ?_) (fun h2 => brB_intro (fun h3 => ret0 ?_) (fun h3 => ?_)))⟩
  · have e : decide (hs.length = w.length / 2) = false := by simp at h2 ⊢; omega
    rw [d1 (nb' h) _ e] at hK; exact hK
  · have e : decide (hs.length = w.length / 2) = true := by simp at h2 ⊢; omega
    have e2 : decide (ss.length = w.length / 2) = false := by simp at h3 ⊢; omega
    rw [d1 (nb' h) _ e, e2] at hK; exact hK
  · have e : hs.length = w.length / 2 := by simp at h2; omega
    have e2 : ss.length = w.length / 2 := by simp at h3; omega
    rw [d1 (nb' h) _ (decide_eq_true e), decide_eq_true e2] at hK
    refine loop_okF (T := tab [c_l01Is, c_l01In]) [1, 3, 4] [(32, 32)] (fun i : Nat => ⟨55, [(1, .val (.one (.ptr 32 0))), (3, vi ((w.length / 2 : Nat) : Int)), (4, vi i)], [(32, .box 34 [.ro (.int .i64) w, .ro (.int .i64) hs, .ro (.int .i64) ss])]⟩)
      (fun i => i ≤ w.length / 2 ∧ (hs.take i).all (inB · 0 1) = true ∧ (ss.take i).all sgn = true) (fun i => w.length / 2 - i) 0 rfl rfl ⟨Nat.zero_le _, rfl, rfl⟩ (fun i hi => ?_)
    obtain ⟨hi, ht, ht2⟩ := hi
    simp only [go_sem, ↓brB_t, ↓brB_f, Nat.reduceAdd, Int.reduceLE, Int.reduceLT, Int.reduceNeg, decide_true, decide_false, Bool.and_self, Nat.succ_eq_add_one, Int.toNat_natCast, Nat.beq_refl, Bool.and_true, Bool.true_and, Bool.false_or, Bool.or_true, List.all_cons, List.all_nil, Nat.reduceMul, Nat.add_zero, Nat.zero_add, List.length_nil, List.length_cons, dite_true, List.nil_append, Nat.reduceBEq, reduceDIte, reduceIte, reduceCtorEq, Bool.or_false, Bool.true_or, Bool.and_false, Bool.false_and, Bool.not_true, Bool.not_false, Option.isSome_some, Option.isSome_none, Option.getD_some, List.getElem?_cons_zero, List.getElem?_cons_succ, eq_self, and_self, List.take_succ_cons, List.take_zero, List.drop_succ_cons, List.drop_zero]
    have next : ∀ {x : Prop}, x → x := fun h => h
    refine brB_intro (fun h4 => ?_) (fun h4 => ret0 ?_)
    · have h4 := of_decide_eq_true h4
      refine ⟨⟨by omega, by omega⟩, brB_intro (fun h5 => ret0 ?_) (fun h5 => ⟨⟨by omega, by omega⟩, brB_intro (fun h6 => ⟨⟨by omega, by omega⟩, brB_intro (fun h7 => ret0 ?_) (fun h7 => ?_)⟩) (fun h6 => ?_)⟩)⟩
      · rw [all_n (by omega) (nb h5)] at hK; exact hK
      · have e3 : sgn (ss.getD i 0) = false := by
          have h6 := of_decide_eq_false (nb h6)
          have h7 := of_decide_eq_false (nb h7)
          rw [sgn, decide_eq_false]; omega
        rw [all_n (l := ss) (by omega) e3, Bool.and_false] at hK; exact hK
      · refine ⟨i + 1, [(32, 32)], ⟨by omega, all_s ht (by omega) (nb' h5), all_s ht2 (by omega) ?_⟩, by omega, rfl, ?_⟩
        · have h7 := of_decide_eq_true (nb' h7)
          rw [sgn, decide_eq_true]; exact .inr h7
        · rw [w64_s (n := w.length) (by omega) hl]; rfl
      · refine ⟨i + 1, [(32, 32)], ⟨by omega, all_s ht (by omega) (nb' h5), all_s ht2 (by omega) ?_⟩, by omega, rfl, ?_⟩
        · have h6 := of_decide_eq_true (nb' h6)
          rw [sgn, decide_eq_true]; exact .inl h6
        · rw [w64_s (n := w.length) (by omega) hl]; rfl
    · have h4 := of_decide_eq_false h4
      rw [List.take_of_length_le (by omega)] at ht
      rw [List.take_of_length_le (by omega)] at ht2
      rw [ht, ht2] at hK; exact hK
def c_l07Is : Ctr Try.prog := ⟨56, ent Try.func56 rfl rfl, [], sp_isG, good_l07Is⟩
@[go_sem] theorem c_l07Is_f : c_l07Is.f = 56 := rfl
@[go_sem] theorem c_l07Is_ms : c_l07Is.ms = [] := rfl
@[go_sem] theorem c_l07Is_sp : c_l07Is.spec = sp_isG := rfl
attribute [go_sem] sp_isG
end Go.Proofs.Ytihfncjpfgdhoaa.V

set_option linter.unusedVariables false
set_option linter.unusedSimpArgs false
namespace Go.Proofs.Ytihfncjpfgdhoaa.V
open Go
def sp_l07Order : List Cv → List Obj' → Tree
  | [.one (.ro (.int .i64) l)], [] => .need (l.length < 1099511627776) (.ret (ow 0) [rwi (Go.Proofs.Ytihfncjpfgdhoaa.K.metBy [] l)])
  | _, _ => .fail
theorem any_s {m : List Int} {p : Int → Bool} {k : Nat} (h : k < m.length) : (m.take (k + 1)).any p = ((m.take k).any p || p (m.getD k 0)) := by
  rw [List.take_succ_eq_append_getElem h, List.any_append, ← getD_eq h]; simp only [List.any_cons, List.any_nil, Bool.or_false]
theorem any_idx {m : List Int} {x : Int} : (m.any fun y => decide (y = x)) = (m.idxOf? x).isSome := by
  cases h : m.idxOf? x with
  | none =>
    have : x ∉ m := by simpa [List.idxOf?_eq_none_iff] using h
    show (m.any fun y => decide (y = x)) = false
    rw [← Bool.not_eq_true, List.any_eq_true]
    rintro ⟨y, hy, e⟩
    exact this (of_decide_eq_true e ▸ hy)
  | some j =>
    have : x ∈ m := by
      rcases Decidable.em (x ∈ m) with h1 | h1
      · exact h1
      · have : m.idxOf? x = none := by simpa [List.idxOf?_eq_none_iff] using h1
        rw [this] at h; cases h
    rw [List.any_eq_true.2 ⟨x, this, by simp⟩]; rfl
set_option maxHeartbeats 4000000 in
set_option maxRecDepth 100000 in
theorem good_l07Order : Good Try.prog 103 sp_l07Order := by
  refine good_ofF Try.func103 rfl _ rfl _ rfl (tab []) (fun X cs os0 K hok hos hK => ?_)
  clear hos; unfold sp_l07Order at hK
  split at hK
  case h_2 => exact hK.elim
  rename_i l
  refine ⟨by simp, by simp, ?_⟩
  simp only [go_sem] at hK hok
  simp (maxSteps := 4000000) only [go_sem, Try.f103, ↓brB_t, ↓brB_f, Nat.reduceAdd, Int.reduceLE, Int.reduceLT, Int.reduceNeg, decide_true, decide_false, Bool.and_self, Nat.succ_eq_add_one, Int.toNat_natCast, Nat.beq_refl, Bool.and_true, Bool.true_and, Bool.false_or, Bool.or_true, List.all_cons, List.all_nil, Nat.reduceMul, Nat.add_zero, Nat.zero_add, List.length_nil, List.length_cons, dite_true, List.nil_append, Nat.reduceBEq, reduceDIte, reduceIte, reduceCtorEq, Bool.or_false, Bool.true_or, Bool.and_false, Bool.false_and, Bool.not_true, Bool.not_false, Option.isSome_some, Option.isSome_none, Option.getD_some, List.getElem?_cons_zero, List.getElem?_cons_succ, eq_self, and_self, List.take_succ_cons, List.take_zero, List.drop_succ_cons, List.drop_zero]
  obtain ⟨hl, hK⟩ := hK
  refine loop_okF (T := tab []) [0, 3, 4] [(16, 128)] (fun i : Nat => ⟨42, [(0, ri l), (3, ow 16), (4, vi i)], [(16, rwi (metI l i))]⟩)
    (fun i => i ≤ l.length) (fun i => l.length - i) 0 rfl rfl (Nat.zero_le _) (fun i hi => ?_)
  have hm := metI_len l i
  simp only [go_sem, ↓brB_t, ↓brB_f, Nat.reduceAdd, Int.reduceLE, Int.reduceLT, Int.reduceNeg, decide_true, decide_false, Bool.and_self, Nat.succ_eq_add_one, Int.toNat_natCast, Nat.beq_refl, Bool.and_true, Bool.true_and, Bool.false_or, Bool.or_true, List.all_cons, List.all_nil, Nat.reduceMul, Nat.add_zero, Nat.zero_add, List.length_nil, List.length_cons, dite_true, List.nil_append, Nat.reduceBEq, reduceDIte, reduceIte, reduceCtorEq, Bool.or_false, Bool.true_or, Bool.and_false, Bool.false_and, Bool.not_true, Bool.not_false, Option.isSome_some, Option.isSome_none, Option.getD_some, List.getElem?_cons_zero, List.getElem?_cons_succ, eq_self, and_self, List.take_succ_cons, List.take_zero, List.drop_succ_cons, List.drop_zero]
  refine brB_intro (fun h1 => ?_) (fun h1 => retN [16] rfl ?_)
  · have h1 := of_decide_eq_true h1
    refine loop_okF (T := tab []) [0, 3, 4, 5, 6] [(16, 16)] (fun k : Nat => ⟨42, [(0, ri l), (3, ow 16), (4, vi i), (5, vb (((metI l i).take k).any (fun x => decide (x = l.getD i 0)))), (6, vi k)], [(16, rwi (metI l i))]⟩)
      (fun k => k ≤ (metI l i).length) (fun k => (metI l i).length - k) 0 rfl rfl (Nat.zero_le _) (fun k hk => ?_)
    simp only [go_sem, ↓brB_t, ↓brB_f, Nat.reduceAdd, Int.reduceLE, Int.reduceLT, Int.reduceNeg, decide_true, decide_false, Bool.and_self, Nat.succ_eq_add_one, Int.toNat_natCast, Nat.beq_refl, Bool.and_true, Bool.true_and, Bool.false_or, Bool.or_true, List.all_cons, List.all_nil, Nat.reduceMul, Nat.add_zero, Nat.zero_add, List.length_nil, List.length_cons, dite_true, List.nil_append, Nat.reduceBEq, reduceDIte, reduceIte, reduceCtorEq, Bool.or_false, Bool.true_or, Bool.and_false, Bool.false_and, Bool.not_true, Bool.not_false, Option.isSome_some, Option.isSome_none, Option.getD_some, List.getElem?_cons_zero, List.getElem?_cons_succ, eq_self, and_self, List.take_succ_cons, List.take_zero, List.drop_succ_cons, List.drop_zero]
    refine brB_intro (fun h2 => ?_) (fun h2 => ?_)
    · have h2 := of_decide_eq_true h2
      have es := any_s (m := metI l i) (p := fun x => decide (x = l.getD i 0)) (k := k) (by omega)
      refine brB_intro (fun h3 => ⟨by kernel_rfl, k + 1, [(16, 16)], by omega, by omega, rfl, ?_⟩) (fun h3 => ⟨⟨by omega, by omega⟩, ⟨by omega, by omega⟩, by kernel_rfl, k + 1, [(16, 16)], by omega, by omega, rfl, ?_⟩)
      · rw [w64_s (n := l.length) (by omega) (by omega), es, h3]; rfl
      · rw [w64_s (n := l.length) (by omega) (by omega), es, h3]; rfl
    · have h2 := of_decide_eq_false h2
      have e : k = (metI l i).length := by omega
      subst e
      rw [List.take_length, any_idx]
      have es := metI_s (l := l) (i := i) (by omega)
      cases hx : (metI l i).idxOf? (l.getD i 0) with
      | some j =>
        simp only [hx] at es
        refine brB_intro (fun h3 => by cases h3) (fun h3 => ⟨i + 1, [(16, 16)], by omega, by omega, rfl, ?_⟩)
        rw [w64_s (n := l.length) (by omega) (by omega), es]; rfl
      | none =>
        simp only [hx] at es
        refine brB_intro (fun h3 => ⟨⟨by omega, by omega⟩, by omega, i + 1, [(16, 656)], by omega, by omega, rfl, ?_⟩) (fun h3 => by cases h3)
        rw [w64_s (n := l.length) (by omega) (by omega), es]; rfl
  · have h1 := of_decide_eq_false h1
    have e : metI l i = Go.Proofs.Ytihfncjpfgdhoaa.K.metBy [] l := by rw [metI, List.take_of_length_le (by omega)]
    rw [e]; exact hK
def c_l07Order : Ctr Try.prog := ⟨103, ent Try.func103 rfl rfl, [], sp_l07Order, good_l07Order⟩
@[go_sem] theorem c_l07Order_f : c_l07Order.f = 103 := rfl
@[go_sem] theorem c_l07Order_ms : c_l07Order.ms = [] := rfl
@[go_sem] theorem c_l07Order_sp : c_l07Order.spec = sp_l07Order := rfl
attribute [go_sem] sp_l07Order
end Go.Proofs.Ytihfncjpfgdhoaa.V

set_option linter.unusedVariables false
set_option linter.unusedSimpArgs false
namespace Go.Proofs.Ytihfncjpfgdhoaa.V
open Go
set_option maxHeartbeats 4000000 in
set_option maxRecDepth 100000 in
theorem good_l07Normal : Good Try.prog 68 sp_renumbered := by
  refine good_ofF Try.func68 rfl _ rfl _ rfl (tab [c_l07Order, c_l01Normal]) (fun X cs os0 K hok hos hK => ?_)
  clear hos; unfold sp_renumbered at hK
  split at hK
  case h_2 => exact hK.elim
  rename_i l hs ss
  refine ⟨by simp, by simp, ?_⟩
  simp only [go_sem] at hK hok
  simp (maxSteps := 4000000) only [go_sem, Try.f68, ↓brB_t, ↓brB_f, Nat.reduceAdd, Int.reduceLE, Int.reduceLT, Int.reduceNeg, decide_true, decide_false, Bool.and_self, Nat.succ_eq_add_one, Int.toNat_natCast, Nat.beq_refl, Bool.and_true, Bool.true_and, Bool.false_or, Bool.or_true, List.all_cons, List.all_nil, Nat.reduceMul, Nat.add_zero, Nat.zero_add, List.length_nil, List.length_cons, dite_true, List.nil_append, Nat.reduceBEq, reduceDIte, reduceIte, reduceCtorEq, Bool.or_false, Bool.true_or, Bool.and_false, Bool.false_and, Bool.not_true, Bool.not_false, Option.isSome_some, Option.isSome_none, Option.getD_some, List.getElem?_cons_zero, List.getElem?_cons_succ, eq_self, and_self, List.take_succ_cons, List.take_zero, List.drop_succ_cons, List.drop_zero]
  obtain ⟨⟨hl, hb⟩, hK⟩ := hK
  refine ⟨hl, hl, ?_⟩
  have ho : (Go.Proofs.Ytihfncjpfgdhoaa.K.metBy [] l).length ≤ l.length := by have := metBy_length l []; simpa using this
  have hmm := metBy_mem l []
  generalize hg : Go.Proofs.Ytihfncjpfgdhoaa.K.metBy [] l = ord at *
  refine loop_okF (T := tab [c_l07Order, c_l01Normal]) [0, 1, 2, 6, 7, 8, 9] [(16, 192), (17, 144), (18, 224), (19, 240), (20, 256), (21, 112)] (fun i : Nat => ⟨48, [(0, ri l), (1, ri hs), (2, ri ss), (6, .val (.one (.ptr 21 0))), (7, ow 16), (8, .val (.one (.ptr 17 0))), (9, vi i)],
      [(16, rwi ord), (17, .box 34 [.own 18, .own 19, .own 20]), (18, rwi (Go.Proofs.Ytihfncjpfgdhoaa.K.normalL l)), (19, rwi ((ord.take i).map fun x => hs.getD x.toNat 0)), (20, rwi ((ord.take i).map fun x => ss.getD x.toNat 0)), (21, .box 34 [.v (.slice none 0 0), .v (.slice none 0 0), .v (.slice none 0 0)])]⟩)
    (fun i => i ≤ ord.length) (fun i => ord.length - i) 0 rfl rfl (Nat.zero_le _) (fun i hi => ?_)
  simp only [go_sem, ↓brB_t, ↓brB_f, Nat.reduceAdd, Int.reduceLE, Int.reduceLT, Int.reduceNeg, decide_true, decide_false, Bool.and_self, Nat.succ_eq_add_one, Int.toNat_natCast, Nat.beq_refl, Bool.and_true, Bool.true_and, Bool.false_or, Bool.or_true, List.all_cons, List.all_nil, Nat.reduceMul, Nat.add_zero, Nat.zero_add, List.length_nil, List.length_cons, dite_true, List.nil_append, Nat.reduceBEq, reduceDIte, reduceIte, reduceCtorEq, Bool.or_false, Bool.true_or, Bool.and_false, Bool.false_and, Bool.not_true, Bool.not_false, Option.isSome_some, Option.isSome_none, Option.getD_some, List.getElem?_cons_zero, List.getElem?_cons_succ, eq_self, and_self, List.take_succ_cons, List.take_zero, List.drop_succ_cons, List.drop_zero]
  refine brB_intro (fun h1 => ?_) (fun h1 => retN [18, 19, 20] rfl ?_)
  · have h1 := of_decide_eq_true h1
    have hx : ord.getD i 0 ∈ l := (hmm _ (getD_mem (by omega))).resolve_left (by simp)
    obtain ⟨b0, b1, b2⟩ := hb _ hx
    have m1 : ((ord.take i).map fun x => hs.getD x.toNat 0).length = i := by rw [List.length_map, List.length_take]; omega
    have m2 : ((ord.take i).map fun x => ss.getD x.toNat 0).length = i := by rw [List.length_map, List.length_take]; omega
    have ts : ∀ (zs : List Int), ((ord.take (i + 1)).map fun x => zs.getD x.toNat 0) = ((ord.take i).map fun x => zs.getD x.toNat 0) ++ [zs.getD (ord.getD i 0).toNat 0] := fun zs => by
      rw [List.take_succ_eq_append_getElem (by omega), List.map_append, ← getD_eq (by omega)]; rfl
    refine ⟨⟨by omega, by omega⟩, ⟨b0, b1⟩, by omega, by kernel_rfl, ⟨by omega, by omega⟩, ⟨b0, b2⟩, by omega, by kernel_rfl, i + 1, [(16, 16), (17, 17), (18, 18), (19, 544), (20, 736), (21, 21)], by omega, by omega, rfl, ?_⟩
    rw [w64_s (n := l.length) (by omega) (by omega), ts, ts]; rfl
  · have h1 := of_decide_eq_false h1
    have e : ord.take i = ord := List.take_of_length_le (by omega)
    rw [e]
    unfold Go.Proofs.Ytihfncjpfgdhoaa.K.firsts at hK
    rw [hg] at hK
    exact hK
def c_l07Normal : Ctr Try.prog := ⟨68, ent Try.func68 rfl rfl, [], sp_renumbered, good_l07Normal⟩
@[go_sem] theorem c_l07Normal_f : c_l07Normal.f = 68 := rfl
@[go_sem] theorem c_l07Normal_ms : c_l07Normal.ms = [] := rfl
@[go_sem] theorem c_l07Normal_sp : c_l07Normal.spec = sp_renumbered := rfl
attribute [go_sem] sp_renumbered
end Go.Proofs.Ytihfncjpfgdhoaa.V
