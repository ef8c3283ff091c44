/- Contracts: joined words, lists of sums, tests of two sums. Conditions: told by each spec. -/
import Derived.Test.YtokakggilajjlaaVM
import Derived.Test.YtokakggilajjlaaVS5
import Derived.Test.YtokakggilajjlaaVJ0
set_option linter.unusedVariables false
set_option linter.unusedSimpArgs false
namespace Go.Proofs.Ytokakggilajjlaa.V
open Go
/-- The joined word. -/
def joL (a b : List Int) : List Int := a ++ b.map fun x => w64 (x + (a.length / 2 : Nat))
theorem joL_s {a b : List Int} {i : Nat} (h : i < b.length) : joL a (b.take (i + 1)) = joL a (b.take i) ++ [w64 (b.getD i 0 + (a.length / 2 : Nat))] := by
  rw [joL, joL, List.take_succ_eq_append_getElem h, List.map_append, getD_eq h, List.append_assoc]; rfl
theorem joL_len (a b : List Int) : (joL a b).length = a.length + b.length := by rw [joL, List.length_append, List.length_map]
def sp_join : List Cv → List Obj' → Tree
  | [.one (.ro (.int .i64) a), .one (.ro (.int .i64) b)], [] => .need (a.length < 1000000 ∧ b.length < 1000000) (.ret (ow 0) [rwi (joL a b)])
  | _, _ => .fail
set_option maxHeartbeats 4000000 in
set_option maxRecDepth 100000 in
theorem good_joinI : Good Try.prog 125 sp_join := by
  refine good_ofF Try.func125 rfl _ rfl _ rfl (tab [c_clone, c_chords]) (fun X cs os0 K hok hos hK => ?_)
  clear hos; unfold sp_join at hK
  split at hK
  case h_2 => exact hK.elim
  rename_i a b
  refine ⟨by simp, by simp, ?_⟩
  simp only [go_sem] at hK hok
  simp (maxSteps := 4000000) only [go_sem, Try.f125, ↓brB_t, ↓brB_f, Nat.reduceAdd, Int.reduceLE, Int.reduceLT, Int.reduceNeg, decide_true, decide_false, Bool.and_self, Nat.succ_eq_add_one, Int.toNat_natCast, Nat.beq_refl, Bool.and_true, Bool.true_and, Bool.false_or, Bool.or_true, List.all_cons, List.all_nil, Nat.reduceMul, Nat.add_zero, Nat.zero_add, List.length_nil, List.length_cons, dite_true, List.nil_append, Nat.reduceBEq, reduceDIte, reduceIte, reduceCtorEq, Bool.or_false, Bool.true_or, Bool.and_false, Bool.false_and, Bool.not_true, Bool.not_false, Option.isSome_some, Option.isSome_none, Option.getD_some, List.getElem?_cons_zero, List.getElem?_cons_succ, eq_self, and_self, List.take_succ_cons, List.take_zero, List.drop_succ_cons, List.drop_zero]
  obtain ⟨⟨h1, h2⟩, hK⟩ := hK
  clear hok
  refine ⟨by omega, ?_⟩
  refine loop_okF (T := tab [c_clone, c_chords]) [0, 5, 10, 11, 12] [(16, 160)] (fun i : Nat => ⟨25, [(0, ri a), (5, ow 16), (10, ri b), (11, vi (b.length : Nat)), (12, vi i)], [(16, rwi (joL a (b.take i)))]⟩)
    (fun i => i ≤ b.length) (fun i => b.length - i) 0 rfl (by rw [show joL a (b.take 0) = a by simp [joL]]; rfl) (Nat.zero_le _) (fun i hi => ?_)
  have hjl := joL_len a (b.take i)
  have htl : (b.take i).length = i := by rw [List.length_take]; omega
  simp only [go_sem, ↓brB_t, ↓brB_f, Nat.reduceAdd, Int.reduceLE, Int.reduceLT, Int.reduceNeg, decide_true, decide_false, Bool.and_self, Nat.succ_eq_add_one, Int.toNat_natCast, Nat.beq_refl, Bool.and_true, Bool.true_and, Bool.false_or, Bool.or_true, List.all_cons, List.all_nil, Nat.reduceMul, Nat.add_zero, Nat.zero_add, List.length_nil, List.length_cons, dite_true, List.nil_append, Nat.reduceBEq, reduceDIte, reduceIte, reduceCtorEq, Bool.or_false, Bool.true_or, Bool.and_false, Bool.false_and, Bool.not_true, Bool.not_false, Option.isSome_some, Option.isSome_none, Option.getD_some, List.getElem?_cons_zero, List.getElem?_cons_succ, eq_self, and_self, List.take_succ_cons, List.take_zero, List.drop_succ_cons, List.drop_zero]
  refine brB_intro (fun h3 => ?_) (fun h3 => ?_)
  · have h3 := of_decide_eq_true h3
    have hs := joL_s (a := a) (b := b) (i := i) (by omega)
    have hw1 : w64 ((i : Int) + 1) = ((i + 1 : Nat) : Int) := w64_s (n := b.length) (by omega) (by omega)
    refine ⟨⟨by omega, by omega⟩, by omega, i + 1, [(16, 368)], by omega, by omega, rfl, ?_⟩
    rw [hw1, hs]; rfl
  · have h3 := of_decide_eq_false h3
    have e : i = b.length := by omega
    subst e
    rw [List.take_length]
    exact retN [16] rfl hK
def c_joinI : Ctr Try.prog := ⟨125, ent Try.func125 rfl rfl, [], sp_join, good_joinI, []⟩
@[go_sem] theorem c_joinI_f : c_joinI.f = 125 := rfl
@[go_sem] theorem c_joinI_ms : c_joinI.ms = [] := rfl
@[go_sem] theorem c_joinI_sp : c_joinI.spec = sp_join := rfl
@[go_sem] theorem c_joinI_fz : c_joinI.fz = [] := rfl
attribute [go_sem] sp_join
set_option maxHeartbeats 4000000 in
set_option maxRecDepth 100000 in
theorem good_joinS : Good Try.prog 120 sp_join := by
  refine good_ofF Try.func120 rfl _ rfl _ rfl (tab [c_own]) (fun X cs os0 K hok hos hK => ?_)
  clear hos; unfold sp_join at hK
  split at hK
  case h_2 => exact hK.elim
  rename_i a b
  refine ⟨by simp, by simp, ?_⟩
  simp only [go_sem] at hK hok
  simp (maxSteps := 4000000) only [go_sem, Try.f120, ↓brB_t, ↓brB_f, Nat.reduceAdd, Int.reduceLE, Int.reduceLT, Int.reduceNeg, decide_true, decide_false, Bool.and_self, Nat.succ_eq_add_one, Int.toNat_natCast, Nat.beq_refl, Bool.and_true, Bool.true_and, Bool.false_or, Bool.or_true, List.all_cons, List.all_nil, Nat.reduceMul, Nat.add_zero, Nat.zero_add, List.length_nil, List.length_cons, dite_true, List.nil_append, Nat.reduceBEq, reduceDIte, reduceIte, reduceCtorEq, Bool.or_false, Bool.true_or, Bool.and_false, Bool.false_and, Bool.not_true, Bool.not_false, Option.isSome_some, Option.isSome_none, Option.getD_some, List.getElem?_cons_zero, List.getElem?_cons_succ, eq_self, and_self, List.take_succ_cons, List.take_zero, List.drop_succ_cons, List.drop_zero]
  obtain ⟨⟨h1, h2⟩, hK⟩ := hK
  clear hok
  refine ⟨by omega, ?_⟩
  refine loop_okF (T := tab [c_own]) [0, 1, 5, 6] [(16, 144)] (fun i : Nat => ⟨27, [(0, ri a), (1, ri b), (5, ow 16), (6, vi i)], [(16, rwi (joL a (b.take i)))]⟩)
    (fun i => i ≤ b.length) (fun i => b.length - i) 0 rfl (by rw [show joL a (b.take 0) = a by simp [joL]]; rfl) (Nat.zero_le _) (fun i hi => ?_)
  have hjl := joL_len a (b.take i)
  have htl : (b.take i).length = i := by rw [List.length_take]; omega
  simp only [go_sem, ↓brB_t, ↓brB_f, Nat.reduceAdd, Int.reduceLE, Int.reduceLT, Int.reduceNeg, decide_true, decide_false, Bool.and_self, Nat.succ_eq_add_one, Int.toNat_natCast, Nat.beq_refl, Bool.and_true, Bool.true_and, Bool.false_or, Bool.or_true, List.all_cons, List.all_nil, Nat.reduceMul, Nat.add_zero, Nat.zero_add, List.length_nil, List.length_cons, dite_true, List.nil_append, Nat.reduceBEq, reduceDIte, reduceIte, reduceCtorEq, Bool.or_false, Bool.true_or, Bool.and_false, Bool.false_and, Bool.not_true, Bool.not_false, Option.isSome_some, Option.isSome_none, Option.getD_some, List.getElem?_cons_zero, List.getElem?_cons_succ, eq_self, and_self, List.take_succ_cons, List.take_zero, List.drop_succ_cons, List.drop_zero]
  refine brB_intro (fun h3 => ?_) (fun h3 => ?_)
  · have h3 := of_decide_eq_true h3
    have hs := joL_s (a := a) (b := b) (i := i) (by omega)
    have hw1 : w64 ((i : Int) + 1) = ((i + 1 : Nat) : Int) := w64_s (n := b.length) (by omega) (by omega)
    have hq : w64 ((a.length : Int).tdiv 2) = ((a.length / 2 : Nat) : Int) := by
      rw [Int.tdiv_eq_ediv_of_nonneg (by omega), w64_id (by omega) (by omega)]; omega
    rw [hq, hw1]
    refine ⟨⟨by omega, by omega⟩, by omega, by omega, i + 1, [(16, 416)], by omega, by omega, rfl, ?_⟩
    rw [hs]; rfl
  · have h3 := of_decide_eq_false h3
    have e : i = b.length := by omega
    subst e
    rw [List.take_length]
    exact retN [16] rfl hK
def c_joinS : Ctr Try.prog := ⟨120, ent Try.func120 rfl rfl, [], sp_join, good_joinS, []⟩
@[go_sem] theorem c_joinS_f : c_joinS.f = 120 := rfl
@[go_sem] theorem c_joinS_ms : c_joinS.ms = [] := rfl
@[go_sem] theorem c_joinS_sp : c_joinS.spec = sp_join := rfl
@[go_sem] theorem c_joinS_fz : c_joinS.fz = [] := rfl
attribute [go_sem] sp_join
/-! ### lists of sums -/
abbrev kSm : Kn := .pr (.int .i64) (.sl 68 kTerm)
abbrev SumT := Int × TermL
abbrev TstS := HT [kSm] → Option Kn.bool.T
def tstS (f : TstS) (x : SumT) : Bool := (f (x, ())).getD false
def idxS (p : SumT → Bool) (l : List SumT) : Int := match l.findIdx? p with | some j => (j : Int) | none => -1
def sp_indexS : List Cv → List Obj' → Tree
  | [.one (.ro (.pr (.int .i64) (.sl 68 (.pr (.sl 2 (.int .i64)) (.int .i64)))) l), .one (.pf [.pr (.int .i64) (.sl 68 (.pr (.sl 2 (.int .i64)) (.int .i64)))] .bool f)], [] => .need (l.length ≤ 1000 ∧ ∀ x ∈ (l : List SumT), (f (x, ())).isSome = true) (.ret (vi (idxS (tstS f) l)) [])
  | _, _ => .fail
def sp_containsS : List Cv → List Obj' → Tree
  | [.one (.ro (.pr (.int .i64) (.sl 68 (.pr (.sl 2 (.int .i64)) (.int .i64)))) l), .one (.pf [.pr (.int .i64) (.sl 68 (.pr (.sl 2 (.int .i64)) (.int .i64)))] .bool f)], [] => .need (l.length ≤ 1000 ∧ ∀ x ∈ (l : List SumT), (f (x, ())).isSome = true) (.ret (vb ((l : List SumT).any (tstS f))) [])
  | _, _ => .fail
theorem getD_memS {l : List SumT} {i : Nat} (h : i < l.length) : l.getD i (0, []) ∈ l := by rw [List.getD_eq_getElem?_getD, List.getElem?_eq_getElem h]; exact List.getElem_mem _
theorem getD_eqS {l : List SumT} {i : Nat} (h : i < l.length) : l.getD i (0, []) = l[i] := by rw [List.getD_eq_getElem?_getD, List.getElem?_eq_getElem h]; rfl
set_option maxHeartbeats 4000000 in
set_option maxRecDepth 100000 in
theorem good_indexS : Good Try.prog 165 sp_indexS := by
  refine good_ofF Try.func165 rfl _ rfl _ rfl (tab []) (fun X cs os0 K hok hos hK => ?_)
  clear hos; unfold sp_indexS at hK
  split at hK
  case h_2 => exact hK.elim
  rename_i l f
  refine ⟨by simp, by simp, ?_⟩
  simp only [go_sem] at hK hok
  simp (maxSteps := 4000000) only [go_sem, Try.f165, ↓brB_t, ↓brB_f, Nat.reduceAdd, Int.reduceLE, Int.reduceLT, Int.reduceNeg, decide_true, decide_false, Bool.and_self, Nat.succ_eq_add_one, Int.toNat_natCast, Nat.beq_refl, Bool.and_true, Bool.true_and, Bool.false_or, Bool.or_true, List.all_cons, List.all_nil, Nat.reduceMul, Nat.add_zero, Nat.zero_add, List.length_nil, List.length_cons, dite_true, List.nil_append, Nat.reduceBEq, reduceDIte, reduceIte, reduceCtorEq, Bool.or_false, Bool.true_or, Bool.and_false, Bool.false_and, Bool.not_true, Bool.not_false, Option.isSome_some, Option.isSome_none, Option.getD_some, List.getElem?_cons_zero, List.getElem?_cons_succ, eq_self, and_self, List.take_succ_cons, List.take_zero, List.drop_succ_cons, List.drop_zero]
  obtain ⟨⟨hl, hf⟩, hK⟩ := hK
  clear hok
  refine loop_okF (T := tab []) [0, 1, 7, 8] [] (fun i : Nat => ⟨19, [(0, .val (.one (.ro kSm l))), (1, .val (.one (.pf [kSm] .bool f))), (7, vi (l.length : Nat)), (8, vi i)], []⟩)
    (fun i => i ≤ l.length ∧ ((l : List SumT).take i).all (fun x => !tstS f x) = true) (fun i => l.length - i) 0 rfl rfl ⟨Nat.zero_le _, rfl⟩ (fun i hi => ?_)
  obtain ⟨hi, ht⟩ := hi
  simp only [go_sem, ↓brB_t, ↓brB_f, Nat.reduceAdd, Int.reduceLE, Int.reduceLT, Int.reduceNeg, decide_true, decide_false, Bool.and_self, Nat.succ_eq_add_one, Int.toNat_natCast, Nat.beq_refl, Bool.and_true, Bool.true_and, Bool.false_or, Bool.or_true, List.all_cons, List.all_nil, Nat.reduceMul, Nat.add_zero, Nat.zero_add, List.length_nil, List.length_cons, dite_true, List.nil_append, Nat.reduceBEq, reduceDIte, reduceIte, reduceCtorEq, Bool.or_false, Bool.true_or, Bool.and_false, Bool.false_and, Bool.not_true, Bool.not_false, Option.isSome_some, Option.isSome_none, Option.getD_some, List.getElem?_cons_zero, List.getElem?_cons_succ, eq_self, and_self, List.take_succ_cons, List.take_zero, List.drop_succ_cons, List.drop_zero]
  refine brB_intro (fun h1 => ?_) (fun h1 => ret0 ?_)
  · have h1 := of_decide_eq_true h1
    have h1 : i < l.length := by omega
    refine ⟨⟨by omega, by omega⟩, hf _ (getD_memS h1), brB_intro (fun h2 => ret0 ?_) (fun h2 => ⟨i + 1, [], ⟨by omega, ?_⟩, by omega, rfl, ?_⟩)⟩
    · have e : idxS (tstS f) l = i := by
        have : List.findIdx? (tstS f) l = some i := by
          rw [List.findIdx?_eq_some_iff_getElem]
          refine ⟨h1, by rw [← getD_eqS h1]; exact h2, fun j hj => ?_⟩
          have := List.all_eq_true.1 ht l[j] (by rw [List.mem_take_iff_getElem]; exact ⟨j, by omega, rfl⟩)
          simpa using this
        rw [idxS, this]
      rw [e] at hK; exact hK
    · rw [List.take_succ_eq_append_getElem h1, List.all_append, ht, ← getD_eqS h1]
      simp only [List.all_cons, List.all_nil, Bool.and_true, Bool.true_and, Bool.not_eq_true']
      exact h2
    · rw [w64_s (n := l.length) h1 (by omega)]; rfl
  · have h1 := of_decide_eq_false h1
    have e : idxS (tstS f) l = -1 := by
      have : List.findIdx? (tstS f) l = none := by
        rw [List.findIdx?_eq_none_iff]
        intro x hx
        rw [List.take_of_length_le (by omega)] at ht
        simpa using List.all_eq_true.1 ht x hx
      rw [idxS, this]
    rw [e] at hK; exact hK
def c_indexS : Ctr Try.prog := ⟨165, ent Try.func165 rfl rfl, [], sp_indexS, good_indexS, []⟩
@[go_sem] theorem c_indexS_f : c_indexS.f = 165 := rfl
@[go_sem] theorem c_indexS_ms : c_indexS.ms = [] := rfl
@[go_sem] theorem c_indexS_sp : c_indexS.spec = sp_indexS := rfl
@[go_sem] theorem c_indexS_fz : c_indexS.fz = [] := rfl
attribute [go_sem] sp_indexS
set_option maxHeartbeats 4000000 in
set_option maxRecDepth 100000 in
theorem good_containsS : Good Try.prog 121 sp_containsS := by
  refine good_ofF Try.func121 rfl _ rfl _ rfl (tab [c_indexS]) (fun X cs os0 K hok hos hK => ?_)
  clear hos; unfold sp_containsS at hK
  split at hK
  case h_2 => exact hK.elim
  rename_i l f
  refine ⟨by simp, by simp, ?_⟩
  simp only [go_sem] at hK hok
  simp (maxSteps := 4000000) only [go_sem, Try.f121, ↓brB_t, ↓brB_f, Nat.reduceAdd, Int.reduceLE, Int.reduceLT, Int.reduceNeg, decide_true, decide_false, Bool.and_self, Nat.succ_eq_add_one, Int.toNat_natCast, Nat.beq_refl, Bool.and_true, Bool.true_and, Bool.false_or, Bool.or_true, List.all_cons, List.all_nil, Nat.reduceMul, Nat.add_zero, Nat.zero_add, List.length_nil, List.length_cons, dite_true, List.nil_append, Nat.reduceBEq, reduceDIte, reduceIte, reduceCtorEq, Bool.or_false, Bool.true_or, Bool.and_false, Bool.false_and, Bool.not_true, Bool.not_false, Option.isSome_some, Option.isSome_none, Option.getD_some, List.getElem?_cons_zero, List.getElem?_cons_succ, eq_self, and_self, List.take_succ_cons, List.take_zero, List.drop_succ_cons, List.drop_zero]
  obtain ⟨hf, hK⟩ := hK
  clear hok
  refine ⟨hf, ret0 ?_⟩
  have e : decide (0 ≤ idxS (tstS f) l) = (l : List SumT).any (tstS f) := by
    unfold idxS
    cases h : List.findIdx? (tstS f) l with
    | none =>
      rw [List.findIdx?_eq_none_iff] at h
      symm
      simpa using h
    | some j =>
      rw [List.findIdx?_eq_some_iff_getElem] at h
      obtain ⟨h1, h2, _⟩ := h
      have : (l : List SumT).any (tstS f) = true := List.any_eq_true.2 ⟨_, List.getElem_mem h1, h2⟩
      rw [this]; simp
  rw [← e] at hK; exact hK
def c_containsS : Ctr Try.prog := ⟨121, ent Try.func121 rfl rfl, [], sp_containsS, good_containsS, []⟩
@[go_sem] theorem c_containsS_f : c_containsS.f = 121 := rfl
@[go_sem] theorem c_containsS_ms : c_containsS.ms = [] := rfl
@[go_sem] theorem c_containsS_sp : c_containsS.spec = sp_containsS := rfl
@[go_sem] theorem c_containsS_fz : c_containsS.fz = [] := rfl
attribute [go_sem] sp_containsS
def sp_wr1 : List Cv → List Obj' → Tree
  | [.agg [.v (.int .i64 p), .ro (.pr (.sl 2 (.int .i64)) (.int .i64)) ts]], [] => .ret (vb (!isS p ts)) []
  | _, _ => .fail
set_option maxHeartbeats 4000000 in
set_option maxRecDepth 100000 in
theorem good_wr1 : Good Try.prog 122 sp_wr1 := by
  refine good_ofF Try.func122 rfl _ rfl _ rfl (tab [c_IsSum]) (fun X cs os0 K hok hos hK => ?_)
  clear hos; unfold sp_wr1 at hK
  split at hK
  case h_2 => exact hK.elim
  rename_i p ts
  refine ⟨by simp, by simp, ?_⟩
  simp only [go_sem] at hK hok
  simp (maxSteps := 4000000) only [go_sem, Try.f122, ↓brB_t, ↓brB_f, Nat.reduceAdd, Int.reduceLE, Int.reduceLT, Int.reduceNeg, decide_true, decide_false, Bool.and_self, Nat.succ_eq_add_one, Int.toNat_natCast, Nat.beq_refl, Bool.and_true, Bool.true_and, Bool.false_or, Bool.or_true, List.all_cons, List.all_nil, Nat.reduceMul, Nat.add_zero, Nat.zero_add, List.length_nil, List.length_cons, dite_true, List.nil_append, Nat.reduceBEq, reduceDIte, reduceIte, reduceCtorEq, Bool.or_false, Bool.true_or, Bool.and_false, Bool.false_and, Bool.not_true, Bool.not_false, Option.isSome_some, Option.isSome_none, Option.getD_some, List.getElem?_cons_zero, List.getElem?_cons_succ, eq_self, and_self, List.take_succ_cons, List.take_zero, List.drop_succ_cons, List.drop_zero]
  exact ret0 hK
def p_wr1 : PF0 Try.prog := ⟨122, entB Try.func122 rfl rfl, [kSm], .bool, fun x => some !(isS x.1.1 x.1.2), sp_wr1, good_wr1, fun xs y h K hK => by injection h with h; subst h; exact hK⟩
@[go_sem] theorem p_wr1_f : p_wr1.f = 122 := rfl
@[go_sem] theorem p_wr1_v : Rv.val (.one (.pf p_wr1.ks p_wr1.r p_wr1.g)) = Rv.val (.one (.pf [kSm] .bool fun x => some !(isS x.1.1 x.1.2))) := rfl
def sp_wr2 : List Cv → List Obj' → Tree
  | [.agg [.v (.int .i64 p), .ro (.pr (.sl 2 (.int .i64)) (.int .i64)) ts], .one (.elr (.sl 28 (.pr (.int .i64) (.sl 68 (.pr (.sl 2 (.int .i64)) (.int .i64))))) [l] 0 0)], [] => .need (0 < l.length) (.ret (vb (!decide (p = ((l : List SumT).getD 0 (0, [])).1))) [])
  | _, _ => .fail
set_option maxHeartbeats 4000000 in
set_option maxRecDepth 100000 in
theorem good_wr2 : Good Try.prog 123 sp_wr2 := by
  refine good_ofF Try.func123 rfl _ rfl _ rfl (tab []) (fun X cs os0 K hok hos hK => ?_)
  clear hos; unfold sp_wr2 at hK
  split at hK
  case h_2 => exact hK.elim
  rename_i p ts l
  refine ⟨by simp, by simp, ?_⟩
  simp only [go_sem] at hK hok
  simp (maxSteps := 4000000) only [go_sem, Try.f123, ↓brB_t, ↓brB_f, Nat.reduceAdd, Int.reduceLE, Int.reduceLT, Int.reduceNeg, decide_true, decide_false, Bool.and_self, Nat.succ_eq_add_one, Int.toNat_natCast, Nat.beq_refl, Bool.and_true, Bool.true_and, Bool.false_or, Bool.or_true, List.all_cons, List.all_nil, Nat.reduceMul, Nat.add_zero, Nat.zero_add, List.length_nil, List.length_cons, dite_true, List.nil_append, Nat.reduceBEq, reduceDIte, reduceIte, reduceCtorEq, Bool.or_false, Bool.true_or, Bool.and_false, Bool.false_and, Bool.not_true, Bool.not_false, Option.isSome_some, Option.isSome_none, Option.getD_some, List.getElem?_cons_zero, List.getElem?_cons_succ, eq_self, and_self, List.take_succ_cons, List.take_zero, List.drop_succ_cons, List.drop_zero]
  obtain ⟨h, hK⟩ := hK
  exact ⟨⟨trivial, by simpa using h⟩, by kernel_rfl, ret0 hK⟩
abbrev kSs : Kn := .sl 28 kSm
def wr2P (ys : HC [.d kSs]) (xs : HT [kSm]) : Option Bool := if 0 < (ys.1 : List SumT).length then some (!decide ((xs.1 : SumT).1 = ((ys.1 : List SumT).getD 0 (0, [])).1)) else none
def p_wr2 : PFn Try.prog := ⟨123, entB Try.func123 rfl rfl, [.d kSs], [kSm], .bool, wr2P, sp_wr2, good_wr2, fun ys xs y h K hK => by
  unfold wr2P at h
  split at h
  · rename_i hc
    injection h with h; subst h
    exact ⟨hc, hK⟩
  · cases h⟩
@[go_sem] theorem p_wr2_f : p_wr2.f = 123 := rfl
@[go_sem] theorem p_wr2_caps (args : List Rv) : (capsM p_wr2.cks args fun ys => .ret (.val (.one (.pf p_wr2.ks p_wr2.r (p_wr2.g ys))))) = capsM [.d kSs] args fun ys => .ret (.val (.one (.pf [kSm] .bool (wr2P ys)))) := rfl
/-- What is wrong with sums that are to be taken together. -/
def wrongS (l : List SumT) : Int := if l.any (fun x => !isS x.1 x.2) then 1 else if l.any (fun x => !decide (x.1 = (l.getD 0 (0, [])).1)) then 2 else 0
def sp_wrong : List Cv → List Obj' → Tree
  | [.one (.ro (.pr (.int .i64) (.sl 68 (.pr (.sl 2 (.int .i64)) (.int .i64)))) l)], [] => .need (0 < l.length ∧ l.length ≤ 1000) (.ret (vi (wrongS l)) [])
  | _, _ => .fail
set_option maxHeartbeats 4000000 in
set_option maxRecDepth 100000 in
theorem good_wrong : Good Try.prog 64 sp_wrong := by
  refine good_ofF Try.func64 rfl _ rfl _ rfl (tab [c_containsS] [p_wr1] [p_wr2]) (fun X cs os0 K hok hos hK => ?_)
  clear hos; unfold sp_wrong at hK
  split at hK
  case h_2 => exact hK.elim
  rename_i l
  refine ⟨by simp, by simp, ?_⟩
  simp only [go_sem] at hK hok
  simp (maxSteps := 4000000) only [go_sem, Try.f64, ↓brB_t, ↓brB_f, Nat.reduceAdd, Int.reduceLE, Int.reduceLT, Int.reduceNeg, decide_true, decide_false, Bool.and_self, Nat.succ_eq_add_one, Int.toNat_natCast, Nat.beq_refl, Bool.and_true, Bool.true_and, Bool.false_or, Bool.or_true, List.all_cons, List.all_nil, Nat.reduceMul, Nat.add_zero, Nat.zero_add, List.length_nil, List.length_cons, dite_true, List.nil_append, Nat.reduceBEq, reduceDIte, reduceIte, reduceCtorEq, Bool.or_false, Bool.true_or, Bool.and_false, Bool.false_and, Bool.not_true, Bool.not_false, Option.isSome_some, Option.isSome_none, Option.getD_some, List.getElem?_cons_zero, List.getElem?_cons_succ, eq_self, and_self, List.take_succ_cons, List.take_zero, List.drop_succ_cons, List.drop_zero]
  obtain ⟨⟨h0, h1⟩, hK⟩ := hK
  clear hok
  have e2 : (l : List SumT).any (tstS (wr2P (l, ()))) = l.any (fun x => !decide (x.1 = (l.getD 0 (0, [])).1)) := by
    refine congrArg (List.any l) (funext fun x => ?_)
    unfold tstS wr2P
    rw [if_pos h0]; rfl
  refine ⟨⟨h1, fun _ _ => trivial⟩, brB_intro (fun h2 => ret0 ?_) (fun h2 => ⟨⟨h1, fun x _ => ?_⟩, brB_intro (fun h3 => ret0 ?_) (fun h3 => ret0 ?_)⟩)⟩
  · have h2 : l.any (fun x => !isS x.1 x.2) = true := h2
    rw [wrongS, if_pos h2] at hK
    exact hK
  · unfold wr2P
    rw [if_pos h0]; rfl
  · have h2 : l.any (fun x => !isS x.1 x.2) = false := h2
    rw [wrongS, if_neg (by rw [h2]; decide), if_pos (e2 ▸ h3)] at hK
    exact hK
  · have h2 : l.any (fun x => !isS x.1 x.2) = false := h2
    have h3 := e2 ▸ h3
    rw [wrongS, if_neg (by rw [h2]; decide), if_neg (by rw [h3]; decide)] at hK
    exact hK
def c_wrong : Ctr Try.prog := ⟨64, ent Try.func64 rfl rfl, [], sp_wrong, good_wrong, []⟩
@[go_sem] theorem c_wrong_f : c_wrong.f = 64 := rfl
@[go_sem] theorem c_wrong_ms : c_wrong.ms = [] := rfl
@[go_sem] theorem c_wrong_sp : c_wrong.spec = sp_wrong := rfl
@[go_sem] theorem c_wrong_fz : c_wrong.fz = [] := rfl
attribute [go_sem] sp_wrong
end Go.Proofs.Ytokakggilajjlaa.V
