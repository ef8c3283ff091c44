/- Contracts: sums by the reference. Conditions: told by each spec. -/
import Derived.Test.YtokakggilajjlaaVS1
import Derived.Test.YtokakggilajjlaaVW2
set_option linter.unusedVariables false
set_option linter.unusedSimpArgs false
namespace Go.Proofs.Ytokakggilajjlaa.V
open Go
/-! ### held -/
def markT (k : Int) : TermL → TermL
  | [] => []
  | x :: r => (marks k x.1.length, k + x.1.length) :: markT (k + x.1.length + 1) r
def sp_heldTermS : List Cv → List Obj' → Tree
  | [.one (.ro (.pr (.sl 2 (.int .i64)) (.int .i64)) ts), .one (.v (.int .i64 k))], [] => .need (0 ≤ k ∧ k + ts.length + szT ts ≤ 1099511627776) (.ret (vi (if (ts : TermL) = markT k ts then k + ts.length + szT ts else -1)) [])
  | _, _ => .fail
theorem markT_drop (ts : TermL) : ∀ (k : Int) (i : Nat), i ≤ ts.length → (ts = markT k ts ↔ ts.take i = (markT k ts).take i ∧ ts.drop i = markT (k + i + szT (ts.take i)) (ts.drop i)) := by
  induction ts with
  | nil => intro k i h; simp [markT]
  | cons x r ih =>
    intro k i h
    cases i with
    | zero => simp [szT]
    | succ i =>
      rw [markT, List.take_succ_cons, List.take_succ_cons, List.drop_succ_cons, List.cons.injEq, List.cons.injEq, and_assoc]
      have e : k + ((i + 1 : Nat) : Int) + (szT (x :: r.take i) : Int) = (k + x.1.length + 1) + i + szT (r.take i) := by
        have : szT (x :: r.take i) = x.1.length + szT (r.take i) := by simp [szT]
        rw [this]; omega
      rw [e]
      exact and_congr Iff.rfl (ih _ i (by simpa using h))
theorem markT_s {ts : TermL} {k : Int} {i : Nat} (h : i < ts.length) : (ts.drop i = markT k (ts.drop i) ↔ (ts.getD i ([], 0)).1 = marks k (ts.getD i ([], 0)).1.length ∧ (ts.getD i ([], 0)).2 = k + (ts.getD i ([], 0)).1.length ∧ ts.drop (i + 1) = markT (k + (ts.getD i ([], 0)).1.length + 1) (ts.drop (i + 1))) := by
  have e : ts.getD i ([], 0) = ts[i] := by rw [List.getD_eq_getElem?_getD, List.getElem?_eq_getElem h]; rfl
  rw [List.drop_eq_getElem_cons h, markT, List.cons.injEq, e]
  constructor
  · rintro ⟨h1, h2⟩
    exact ⟨congrArg Prod.fst h1, congrArg Prod.snd h1, h2⟩
  · rintro ⟨h1, h2, h3⟩
    exact ⟨Prod.ext h1 h2, h3⟩
set_option maxHeartbeats 4000000 in
set_option maxRecDepth 100000 in
theorem good_heldTermS : Good Try.prog 60 sp_heldTermS := by
  refine good_ofF Try.func60 rfl _ rfl _ rfl (tab [c_held]) (fun X cs os0 K hok hos hK => ?_)
  clear hos; unfold sp_heldTermS at hK
  split at hK
  case h_2 => exact hK.elim
  rename_i ts k
  refine ⟨by simp, by simp, ?_⟩
  simp only [go_sem] at hK hok
  simp (maxSteps := 4000000) only [go_sem, Try.f60, ↓brB_t, ↓brB_f, Nat.reduceAdd, Int.reduceLE, Int.reduceLT, Int.reduceNeg, decide_true, decide_false, Bool.and_self, Nat.succ_eq_add_one, Int.toNat_natCast, Nat.beq_refl, Bool.and_true, Bool.true_and, Bool.false_or, Bool.or_true, List.all_cons, List.all_nil, Nat.reduceMul, Nat.add_zero, Nat.zero_add, List.length_nil, List.length_cons, dite_true, List.nil_append, Nat.reduceBEq, reduceDIte, reduceIte, reduceCtorEq, Bool.or_false, Bool.true_or, Bool.and_false, Bool.false_and, Bool.not_true, Bool.not_false, Option.isSome_some, Option.isSome_none, Option.getD_some, List.getElem?_cons_zero, List.getElem?_cons_succ, eq_self, and_self, List.take_succ_cons, List.take_zero, List.drop_succ_cons, List.drop_zero]
  obtain ⟨⟨hk0, hk1⟩, hK⟩ := hK
  clear hok
  refine loop_okF (T := tab [c_held]) [0, 1, 5] [] (fun i : Nat => ⟨31, [(0, .val (.one (.ro kTerm ts))), (1, vi (k + i + szT (ts.take i))), (5, vi i)], []⟩)
    (fun i => i ≤ ts.length ∧ (ts = markT k ts ↔ ts.drop i = markT (k + i + szT (ts.take i)) (ts.drop i))) (fun i => ts.length - i) 0 rfl (by rw [show k + ((0 : Nat) : Int) + (szT (ts.take 0) : Int) = k by simp [szT]]; rfl) ⟨Nat.zero_le _, by simp [szT]⟩ (fun i hi => ?_)
  obtain ⟨hi, hm⟩ := hi
  simp only [go_sem, ↓brB_t, ↓brB_f, Nat.reduceAdd, Int.reduceLE, Int.reduceLT, Int.reduceNeg, decide_true, decide_false, Bool.and_self, Nat.succ_eq_add_one, Int.toNat_natCast, Nat.beq_refl, Bool.and_true, Bool.true_and, Bool.false_or, Bool.or_true, List.all_cons, List.all_nil, Nat.reduceMul, Nat.add_zero, Nat.zero_add, List.length_nil, List.length_cons, dite_true, List.nil_append, Nat.reduceBEq, reduceDIte, reduceIte, reduceCtorEq, Bool.or_false, Bool.true_or, Bool.and_false, Bool.false_and, Bool.not_true, Bool.not_false, Option.isSome_some, Option.isSome_none, Option.getD_some, List.getElem?_cons_zero, List.getElem?_cons_succ, eq_self, and_self, List.take_succ_cons, List.take_zero, List.drop_succ_cons, List.drop_zero]
  refine brB_intro (fun h1 => ?_) (fun h1 => ret0 ?_)
  · have h1 := of_decide_eq_true h1
    have hs := szT_s (ts := ts) (i := i) (by omega)
    have hle := szT_le ts (i + 1)
    have hw : w64 ((i : Int) + 1) = ((i + 1 : Nat) : Int) := w64_s (n := ts.length) (by omega) (by omega)
    have hm2 := hm.trans (markT_s (k := k + i + szT (ts.take i)) (show i < ts.length by omega))
    have a1 : 0 ≤ k + i + szT (ts.take i) := by omega
    have a2 : k + i + szT (ts.take i) + (ts.getD i ([], 0)).1.length + 1 ≤ 1099511627776 := by omega
    have ek : k + ((i + 1 : Nat) : Int) + (szT (ts.take (i + 1)) : Int) = k + i + szT (ts.take i) + (ts.getD i ([], 0)).1.length + 1 := by rw [hs]; omega
    clear hm hle
    generalize hkk : k + (i : Int) + (szT (ts.take i) : Int) = kk at *
    have hw2 : w64 (kk + (ts.getD i ([], 0)).1.length + 1) = kk + (ts.getD i ([], 0)).1.length + 1 := w64_id (by omega) (by omega)
    refine ⟨⟨by omega, by omega⟩, ⟨a1, by omega⟩, ?_⟩
    by_cases c1 : (ts.getD i ([], 0)).1 = marks kk (ts.getD i ([], 0)).1.length
    · rw [if_pos c1]
      refine brB_intro (fun h2 => by have := of_decide_eq_true h2; omega) (fun _ => ⟨⟨by omega, by omega⟩, brB_intro (fun h3 => ret0 ?_) (fun h3 => ?_)⟩)
      · have h3 := of_decide_eq_false (snb h3)
        rw [if_neg (fun e => h3 (hm2.1 e).2.1)] at hK; exact hK
      · have h3 := of_decide_eq_true (snb' h3)
        refine ⟨i + 1, [], ⟨by omega, ?_⟩, by omega, rfl, ?_⟩
        · rw [ek]
          exact hm2.trans ⟨fun h => h.2.2, fun h => ⟨c1, h3, h⟩⟩
        · rw [hw2, hw, ek]; rfl
    · rw [if_neg c1]
      refine brB_intro (fun _ => ret0 ?_) (fun h2 => by have := of_decide_eq_false h2; omega)
      rw [if_neg (fun e => c1 (hm2.1 e).1)] at hK; exact hK
  · have h1 := of_decide_eq_false h1
    have e : i = ts.length := by omega
    rw [e, List.drop_length] at hm
    rw [if_pos (hm.2 rfl)] at hK
    rw [e, List.take_length]; exact hK
def c_heldTermS : Ctr Try.prog := ⟨60, ent Try.func60 rfl rfl, [], sp_heldTermS, good_heldTermS, []⟩
@[go_sem] theorem c_heldTermS_f : c_heldTermS.f = 60 := rfl
@[go_sem] theorem c_heldTermS_ms : c_heldTermS.ms = [] := rfl
@[go_sem] theorem c_heldTermS_sp : c_heldTermS.spec = sp_heldTermS := rfl
@[go_sem] theorem c_heldTermS_fz : c_heldTermS.fz = [] := rfl
attribute [go_sem] sp_heldTermS
def sp_heldSum : List Cv → List Obj' → Tree
  | [.agg [.v (.int .i64 p), .ro (.pr (.sl 2 (.int .i64)) (.int .i64)) ts], .one (.v (.int .i64 k))], [] => .need (0 ≤ k ∧ k + ts.length + szT ts ≤ 1099511627776) (.ret (vi (if (ts : TermL) = markT k ts then k + ts.length + szT ts else -1)) [])
  | _, _ => .fail
set_option maxHeartbeats 4000000 in
set_option maxRecDepth 100000 in
theorem good_heldSum : Good Try.prog 19 sp_heldSum := by
  refine good_ofF Try.func19 rfl _ rfl _ rfl (tab [c_heldTermS]) (fun X cs os0 K hok hos hK => ?_)
  clear hos; unfold sp_heldSum at hK
  split at hK
  case h_2 => exact hK.elim
  rename_i p ts k
  refine ⟨by simp, by simp, ?_⟩
  simp only [go_sem] at hK hok
  simp (maxSteps := 4000000) only [go_sem, Try.f19, ↓brB_t, ↓brB_f, Nat.reduceAdd, Int.reduceLE, Int.reduceLT, Int.reduceNeg, decide_true, decide_false, Bool.and_self, Nat.succ_eq_add_one, Int.toNat_natCast, Nat.beq_refl, Bool.and_true, Bool.true_and, Bool.false_or, Bool.or_true, List.all_cons, List.all_nil, Nat.reduceMul, Nat.add_zero, Nat.zero_add, List.length_nil, List.length_cons, dite_true, List.nil_append, Nat.reduceBEq, reduceDIte, reduceIte, reduceCtorEq, Bool.or_false, Bool.true_or, Bool.and_false, Bool.false_and, Bool.not_true, Bool.not_false, Option.isSome_some, Option.isSome_none, Option.getD_some, List.getElem?_cons_zero, List.getElem?_cons_succ, eq_self, and_self, List.take_succ_cons, List.take_zero, List.drop_succ_cons, List.drop_zero]
  obtain ⟨hk, hK⟩ := hK
  clear hok
  refine ⟨hk, ?_⟩
  by_cases c1 : ts = markT k ts
  · rw [if_pos c1] at hK
    rw [if_pos c1]
    exact brB_intro (fun h => by have := of_decide_eq_true h; omega) (fun _ => ret0 hK)
  · rw [if_neg c1] at hK
    rw [if_neg c1]
    exact brB_intro (fun h => ret0 hK) (fun h => by have := of_decide_eq_false h; omega)
def c_heldSum : Ctr Try.prog := ⟨19, ent Try.func19 rfl rfl, [], sp_heldSum, good_heldSum, []⟩
@[go_sem] theorem c_heldSum_f : c_heldSum.f = 19 := rfl
@[go_sem] theorem c_heldSum_ms : c_heldSum.ms = [] := rfl
@[go_sem] theorem c_heldSum_sp : c_heldSum.spec = sp_heldSum := rfl
@[go_sem] theorem c_heldSum_fz : c_heldSum.fz = [] := rfl
attribute [go_sem] sp_heldSum
/-! ### the reference -/
def primeB (p : Int) : Bool := decide (p = 2) || (decide (p = 3) || (decide (p = 5) || (decide (p = 7) || (decide (p = 11) || decide (p = 13)))))
def sp_prime : List Cv → List Obj' → Tree
  | [.one (.v (.int .i64 p))], [] => .ret (vb (primeB p)) []
  | _, _ => .fail
set_option maxHeartbeats 4000000 in
set_option maxRecDepth 100000 in
theorem good_l03Prime : Good Try.prog 75 sp_prime := by
  refine good_ofF Try.func75 rfl _ rfl _ rfl (tab []) (fun X cs os0 K hok hos hK => ?_)
  clear hos; unfold sp_prime at hK
  split at hK
  case h_2 => exact hK.elim
  rename_i p
  refine ⟨by simp, by simp, ?_⟩
  simp only [go_sem] at hK hok
  simp (maxSteps := 4000000) only [go_sem, Try.f75, ↓brB_t, ↓brB_f, Nat.reduceAdd, Int.reduceLE, Int.reduceLT, Int.reduceNeg, decide_true, decide_false, Bool.and_self, Nat.succ_eq_add_one, Int.toNat_natCast, Nat.beq_refl, Bool.and_true, Bool.true_and, Bool.false_or, Bool.or_true, List.all_cons, List.all_nil, Nat.reduceMul, Nat.add_zero, Nat.zero_add, List.length_nil, List.length_cons, dite_true, List.nil_append, Nat.reduceBEq, reduceDIte, reduceIte, reduceCtorEq, Bool.or_false, Bool.true_or, Bool.and_false, Bool.false_and, Bool.not_true, Bool.not_false, Option.isSome_some, Option.isSome_none, Option.getD_some, List.getElem?_cons_zero, List.getElem?_cons_succ, eq_self, and_self, List.take_succ_cons, List.take_zero, List.drop_succ_cons, List.drop_zero]
  clear hok
  unfold primeB at hK
  refine brB_intro (fun h => ret0 (by rw [h] at hK; exact hK)) (fun h => ?_)
  rw [h, Bool.false_or] at hK
  refine brB_intro (fun h => ret0 (by rw [h] at hK; exact hK)) (fun h => ?_)
  rw [h, Bool.false_or] at hK
  refine brB_intro (fun h => ret0 (by rw [h] at hK; exact hK)) (fun h => ?_)
  rw [h, Bool.false_or] at hK
  refine brB_intro (fun h => ret0 (by rw [h] at hK; exact hK)) (fun h => ?_)
  rw [h, Bool.false_or] at hK
  refine brB_intro (fun h => ret0 (by rw [h] at hK; exact hK)) (fun h => ?_)
  rw [h, Bool.false_or] at hK
  exact ret0 hK
def c_l03Prime : Ctr Try.prog := ⟨75, ent Try.func75 rfl rfl, [], sp_prime, good_l03Prime, []⟩
@[go_sem] theorem c_l03Prime_f : c_l03Prime.f = 75 := rfl
@[go_sem] theorem c_l03Prime_ms : c_l03Prime.ms = [] := rfl
@[go_sem] theorem c_l03Prime_sp : c_l03Prime.spec = sp_prime := rfl
@[go_sem] theorem c_l03Prime_fz : c_l03Prime.fz = [] := rfl
attribute [go_sem] sp_prime
def modI (p x : Int) : Int := (w64 (x.tmod p + p)).tmod p
def sp_mod : List Cv → List Obj' → Tree
  | [.one (.v (.int .i64 p)), .one (.v (.int .i64 x))], [] => .need (p ≠ 0) (.ret (vi (modI p x)) [])
  | _, _ => .fail
set_option maxHeartbeats 4000000 in
set_option maxRecDepth 100000 in
theorem good_l03Mod : Good Try.prog 111 sp_mod := by
  refine good_ofF Try.func111 rfl _ rfl _ rfl (tab []) (fun X cs os0 K hok hos hK => ?_)
  clear hos; unfold sp_mod at hK
  split at hK
  case h_2 => exact hK.elim
  rename_i p x
  refine ⟨by simp, by simp, ?_⟩
  simp only [go_sem] at hK hok
  simp (maxSteps := 4000000) only [go_sem, Try.f111, ↓brB_t, ↓brB_f, Nat.reduceAdd, Int.reduceLE, Int.reduceLT, Int.reduceNeg, decide_true, decide_false, Bool.and_self, Nat.succ_eq_add_one, Int.toNat_natCast, Nat.beq_refl, Bool.and_true, Bool.true_and, Bool.false_or, Bool.or_true, List.all_cons, List.all_nil, Nat.reduceMul, Nat.add_zero, Nat.zero_add, List.length_nil, List.length_cons, dite_true, List.nil_append, Nat.reduceBEq, reduceDIte, reduceIte, reduceCtorEq, Bool.or_false, Bool.true_or, Bool.and_false, Bool.false_and, Bool.not_true, Bool.not_false, Option.isSome_some, Option.isSome_none, Option.getD_some, List.getElem?_cons_zero, List.getElem?_cons_succ, eq_self, and_self, List.take_succ_cons, List.take_zero, List.drop_succ_cons, List.drop_zero]
  obtain ⟨hp, hK⟩ := hK
  clear hok
  exact ⟨hp, hp, ret0 hK⟩
def c_l03Mod : Ctr Try.prog := ⟨111, ent Try.func111 rfl rfl, [], sp_mod, good_l03Mod, []⟩
@[go_sem] theorem c_l03Mod_f : c_l03Mod.f = 111 := rfl
@[go_sem] theorem c_l03Mod_ms : c_l03Mod.ms = [] := rfl
@[go_sem] theorem c_l03Mod_sp : c_l03Mod.spec = sp_mod := rfl
@[go_sem] theorem c_l03Mod_fz : c_l03Mod.fz = [] := rfl
attribute [go_sem] sp_mod
def lexLt : List Int → List Int → Bool
  | x :: a, y :: b => if x = y then lexLt a b else decide (x < y)
  | _, _ => false
def beforeB (a b : List Int) : Bool := if a.length = b.length then lexLt a b else decide (a.length < b.length)
def sp_before : List Cv → List Obj' → Tree
  | [.one (.ro (.int .i64) a), .one (.ro (.int .i64) b)], [] => .ret (vb (beforeB a b)) []
  | _, _ => .fail
theorem lexLt_s {a b : List Int} {i : Nat} (h : i < a.length) (hb : i < b.length) : lexLt (a.drop i) (b.drop i) = if a.getD i 0 = b.getD i 0 then lexLt (a.drop (i + 1)) (b.drop (i + 1)) else decide (a.getD i 0 < b.getD i 0) := by
  rw [List.drop_eq_getElem_cons h, List.drop_eq_getElem_cons hb, lexLt, getD_eq h, getD_eq hb]
set_option maxHeartbeats 4000000 in
set_option maxRecDepth 100000 in
theorem good_l01Before : Good Try.prog 110 sp_before := by
  refine good_ofF Try.func110 rfl _ rfl _ rfl (tab []) (fun X cs os0 K hok hos hK => ?_)
  clear hos; unfold sp_before at hK
  split at hK
  case h_2 => exact hK.elim
  rename_i a b
  refine ⟨by simp, by simp, ?_⟩
  simp only [go_sem] at hK hok
  simp (maxSteps := 4000000) only [go_sem, Try.f110, ↓brB_t, ↓brB_f, Nat.reduceAdd, Int.reduceLE, Int.reduceLT, Int.reduceNeg, decide_true, decide_false, Bool.and_self, Nat.succ_eq_add_one, Int.toNat_natCast, Nat.beq_refl, Bool.and_true, Bool.true_and, Bool.false_or, Bool.or_true, List.all_cons, List.all_nil, Nat.reduceMul, Nat.add_zero, Nat.zero_add, List.length_nil, List.length_cons, dite_true, List.nil_append, Nat.reduceBEq, reduceDIte, reduceIte, reduceCtorEq, Bool.or_false, Bool.true_or, Bool.and_false, Bool.false_and, Bool.not_true, Bool.not_false, Option.isSome_some, Option.isSome_none, Option.getD_some, List.getElem?_cons_zero, List.getElem?_cons_succ, eq_self, and_self, List.take_succ_cons, List.take_zero, List.drop_succ_cons, List.drop_zero]
  have hl := len_i hok.1.1
  clear hok
  refine brB_intro (fun h => ret0 ?_) (fun h => ?_)
  · have h := of_decide_eq_false (snb h)
    have e : decide ((a.length : Int) < b.length) = decide (a.length < b.length) := by simp
    rw [beforeB, if_neg (by omega)] at hK
    rw [e]; exact hK
  · have h := of_decide_eq_true (snb' h)
    rw [beforeB, if_pos (by omega)] at hK
    refine loop_okF (T := tab []) [0, 1, 5] [] (fun i : Nat => ⟨40, [(0, ri a), (1, ri b), (5, vi i)], []⟩)
      (fun i => i ≤ a.length ∧ lexLt a b = lexLt (a.drop i) (b.drop i)) (fun i => a.length - i) 0 rfl rfl ⟨Nat.zero_le _, rfl⟩ (fun i hi => ?_)
    obtain ⟨hi, hm⟩ := hi
    simp only [go_sem, ↓brB_t, ↓brB_f, Nat.reduceAdd, Int.reduceLE, Int.reduceLT, Int.reduceNeg, decide_true, decide_false, Bool.and_self, Nat.succ_eq_add_one, Int.toNat_natCast, Nat.beq_refl, Bool.and_true, Bool.true_and, Bool.false_or, Bool.or_true, List.all_cons, List.all_nil, Nat.reduceMul, Nat.add_zero, Nat.zero_add, List.length_nil, List.length_cons, dite_true, List.nil_append, Nat.reduceBEq, reduceDIte, reduceIte, reduceCtorEq, Bool.or_false, Bool.true_or, Bool.and_false, Bool.false_and, Bool.not_true, Bool.not_false, Option.isSome_some, Option.isSome_none, Option.getD_some, List.getElem?_cons_zero, List.getElem?_cons_succ, eq_self, and_self, List.take_succ_cons, List.take_zero, List.drop_succ_cons, List.drop_zero]
    refine brB_intro (fun h1 => ?_) (fun h1 => ret0 ?_)
    · have h1 := of_decide_eq_true h1
      have hs := lexLt_s (a := a) (b := b) (i := i) (by omega) (by omega)
      have hw : w64 ((i : Int) + 1) = ((i + 1 : Nat) : Int) := w64_s (n := a.length) (by omega) hl
      refine ⟨⟨by omega, by omega⟩, ⟨by omega, by omega⟩, by kernel_rfl, brB_intro (fun h2 => ⟨⟨by omega, by omega⟩, ⟨by omega, by omega⟩, by kernel_rfl, ret0 ?_⟩) (fun h2 => ⟨i + 1, [], ⟨by omega, ?_⟩, by omega, rfl, by rw [hw]; rfl⟩)⟩
      · have h2 := of_decide_eq_false (snb h2)
        rw [if_neg h2] at hs
        rw [hm, hs] at hK; exact hK
      · have h2 := of_decide_eq_true (snb' h2)
        rw [if_pos h2] at hs
        rw [hm, hs]
    · have h1 := of_decide_eq_false h1
      have e : lexLt (a.drop i) (b.drop i) = false := by rw [List.drop_eq_nil_of_le (by omega)]; rfl
      rw [hm, e] at hK; exact hK
def c_l01Before : Ctr Try.prog := ⟨110, ent Try.func110 rfl rfl, [], sp_before, good_l01Before, []⟩
@[go_sem] theorem c_l01Before_f : c_l01Before.f = 110 := rfl
@[go_sem] theorem c_l01Before_ms : c_l01Before.ms = [] := rfl
@[go_sem] theorem c_l01Before_sp : c_l01Before.spec = sp_before := rfl
@[go_sem] theorem c_l01Before_fz : c_l01Before.fz = [] := rfl
attribute [go_sem] sp_before
/-! ### what a sum is -/
def termB (p : Int) (ts : TermL) (i : Nat) : Bool := isW (ts.getD i ([], 0)).1 && (inB (ts.getD i ([], 0)).2 1 (w64 (p - 1)) && (decide (i = 0) || beforeB (ts.getD (i - 1) ([], 0)).1 (ts.getD i ([], 0)).1))
def isS (p : Int) (ts : TermL) : Bool := primeB p && (decide (ts.length ≤ 200) && (List.range ts.length).all (termB p ts))
def sp_isS : List Cv → List Obj' → Tree
  | [.agg [.v (.int .i64 p), .ro (.pr (.sl 2 (.int .i64)) (.int .i64)) ts]], [] => .ret (vb (isS p ts)) []
  | _, _ => .fail
theorem all_rs {p : Nat → Bool} {i : Nat} (h : (List.range i).all p = true) (hp : p i = true) : (List.range (i + 1)).all p = true := by
  rw [List.range_succ, List.all_append, h]; simp [hp]
theorem all_rn {p : Nat → Bool} {i n : Nat} (hi : i < n) (hp : p i = false) : (List.range n).all p = false := by
  rw [← Bool.not_eq_true, List.all_eq_true]
  intro h
  rw [h i (List.mem_range.2 hi)] at hp
  cases hp
set_option maxHeartbeats 4000000 in
set_option maxRecDepth 100000 in
theorem good_l03Is : Good Try.prog 49 sp_isS := by
  refine good_ofF Try.func49 rfl _ rfl _ rfl (tab [c_l03Prime, c_l01Is, c_l01In, c_l01Before]) (fun X cs os0 K hok hos hK => ?_)
  clear hos; unfold sp_isS at hK
  split at hK
  case h_2 => exact hK.elim
  rename_i p ts
  refine ⟨by simp, by simp, ?_⟩
  simp only [go_sem] at hK hok
  simp (maxSteps := 4000000) only [go_sem, Try.f49, ↓brB_t, ↓brB_f, Nat.reduceAdd, Int.reduceLE, Int.reduceLT, Int.reduceNeg, decide_true, decide_false, Bool.and_self, Nat.succ_eq_add_one, Int.toNat_natCast, Nat.beq_refl, Bool.and_true, Bool.true_and, Bool.false_or, Bool.or_true, List.all_cons, List.all_nil, Nat.reduceMul, Nat.add_zero, Nat.zero_add, List.length_nil, List.length_cons, dite_true, List.nil_append, Nat.reduceBEq, reduceDIte, reduceIte, reduceCtorEq, Bool.or_false, Bool.true_or, Bool.and_false, Bool.false_and, Bool.not_true, Bool.not_false, Option.isSome_some, Option.isSome_none, Option.getD_some, List.getElem?_cons_zero, List.getElem?_cons_succ, eq_self, and_self, List.take_succ_cons, List.take_zero, List.drop_succ_cons, List.drop_zero]
  clear hok
  unfold isS at hK
  refine brB_intro (fun h => ret0 (by rw [snb h] at hK; exact hK)) (fun h => ?_)
  rw [snb' h, Bool.true_and] at hK
  refine brB_intro (fun h2 => ret0 ?_) (fun h2 => ?_)
  · have h2 := of_decide_eq_true h2
    rw [decide_eq_false (by omega)] at hK; exact hK
  have h2 := of_decide_eq_false h2
  rw [decide_eq_true (by omega), Bool.true_and] at hK
  refine loop_okF (T := tab [c_l03Prime, c_l01Is, c_l01In, c_l01Before]) [1, 3] [(16, 32)] (fun i : Nat => ⟨57, [(1, .val (.one (.ptr 16 0))), (3, vi i)], [(16, .box 28 [.v (.int .i64 p), .ro kTerm ts])]⟩)
    (fun i => i ≤ ts.length ∧ (List.range i).all (termB p ts) = true) (fun i => ts.length - i) 0 rfl rfl ⟨Nat.zero_le _, rfl⟩ (fun i hi => ?_)
  obtain ⟨hi, hm⟩ := hi
  simp only [go_sem, ↓brB_t, ↓brB_f, Nat.reduceAdd, Int.reduceLE, Int.reduceLT, Int.reduceNeg, decide_true, decide_false, Bool.and_self, Nat.succ_eq_add_one, Int.toNat_natCast, Nat.beq_refl, Bool.and_true, Bool.true_and, Bool.false_or, Bool.or_true, List.all_cons, List.all_nil, Nat.reduceMul, Nat.add_zero, Nat.zero_add, List.length_nil, List.length_cons, dite_true, List.nil_append, Nat.reduceBEq, reduceDIte, reduceIte, reduceCtorEq, Bool.or_false, Bool.true_or, Bool.and_false, Bool.false_and, Bool.not_true, Bool.not_false, Option.isSome_some, Option.isSome_none, Option.getD_some, List.getElem?_cons_zero, List.getElem?_cons_succ, eq_self, and_self, List.take_succ_cons, List.take_zero, List.drop_succ_cons, List.drop_zero]
  refine brB_intro (fun h1 => ?_) (fun h1 => ret0 ?_)
  · have h1 := of_decide_eq_true h1
    have hw : w64 ((i : Int) + 1) = ((i + 1 : Nat) : Int) := w64_s (n := ts.length) (by omega) (by omega)
    have no : termB p ts i = false → K (vb false) [] := fun h => by rw [all_rn (i := i) (by omega) h] at hK; exact hK
    refine ⟨⟨by omega, by omega⟩, brB_intro (fun h3 => ⟨by kernel_rfl, ret0 (no ?_)⟩) (fun h3 => brB_intro (fun h4 => ⟨by kernel_rfl, ret0 (no ?_)⟩) (fun h4 => brB_intro (fun h5 => ?_) (fun h5 => ⟨by kernel_rfl, i + 1, [(16, 16)], ⟨by omega, all_rs hm ?_⟩, by omega, rfl, by rw [hw]; rfl⟩)))⟩
    · rw [termB, snb h3]; rfl
    · rw [termB, snb' h3, snb h4]; rfl
    · have h5 := of_decide_eq_true h5
      have e1 : w64 ((i : Int) - 1) = ((i - 1 : Nat) : Int) := by rw [w64_id (by omega) (by omega)]; omega
      simp only [e1, Int.toNat_natCast]
      refine ⟨⟨by omega, by omega⟩, by kernel_rfl, brB_intro (fun h6 => ret0 (no ?_)) (fun h6 => ⟨i + 1, [(16, 16)], ⟨by omega, all_rs hm ?_⟩, by omega, rfl, by rw [hw]; rfl⟩)⟩
      · rw [termB, snb' h3, snb' h4, decide_eq_false (by omega), snb h6]; rfl
      · rw [termB, snb' h3, snb' h4, snb' h6]; simp
    · have h5 := of_decide_eq_false h5
      rw [termB, snb' h3, snb' h4, decide_eq_true (by omega)]; rfl
  · have h1 := of_decide_eq_false h1
    have e : i = ts.length := by omega
    subst e
    rw [hm] at hK; exact hK
def c_l03Is : Ctr Try.prog := ⟨49, ent Try.func49 rfl rfl, [], sp_isS, good_l03Is, []⟩
@[go_sem] theorem c_l03Is_f : c_l03Is.f = 49 := rfl
@[go_sem] theorem c_l03Is_ms : c_l03Is.ms = [] := rfl
@[go_sem] theorem c_l03Is_sp : c_l03Is.spec = sp_isS := rfl
@[go_sem] theorem c_l03Is_fz : c_l03Is.fz = [] := rfl
attribute [go_sem] sp_isS
def sp_empty : List Cv → List Obj' → Tree
  | [.one (.v (.int .i64 p))], [] => .ret (.val (.agg [.v (.int .i64 p), .own 0])) [.drow 68 (.pr (.sl 2 (.int .i64)) (.int .i64)) []]
  | _, _ => .fail
set_option maxHeartbeats 4000000 in
set_option maxRecDepth 100000 in
theorem good_l03Empty : Good Try.prog 51 sp_empty := by
  refine good_ofF Try.func51 rfl _ rfl _ rfl (tab []) (fun X cs os0 K hok hos hK => ?_)
  clear hos; unfold sp_empty at hK
  split at hK
  case h_2 => exact hK.elim
  rename_i p
  refine ⟨by simp, by simp, ?_⟩
  simp only [go_sem] at hK hok
  simp (maxSteps := 4000000) only [go_sem, Try.f51, ↓brB_t, ↓brB_f, Nat.reduceAdd, Int.reduceLE, Int.reduceLT, Int.reduceNeg, decide_true, decide_false, Bool.and_self, Nat.succ_eq_add_one, Int.toNat_natCast, Nat.beq_refl, Bool.and_true, Bool.true_and, Bool.false_or, Bool.or_true, List.all_cons, List.all_nil, Nat.reduceMul, Nat.add_zero, Nat.zero_add, List.length_nil, List.length_cons, dite_true, List.nil_append, Nat.reduceBEq, reduceDIte, reduceIte, reduceCtorEq, Bool.or_false, Bool.true_or, Bool.and_false, Bool.false_and, Bool.not_true, Bool.not_false, Option.isSome_some, Option.isSome_none, Option.getD_some, List.getElem?_cons_zero, List.getElem?_cons_succ, eq_self, and_self, List.take_succ_cons, List.take_zero, List.drop_succ_cons, List.drop_zero]
  clear hok
  exact retN [80] rfl hK
def c_l03Empty : Ctr Try.prog := ⟨51, ent Try.func51 rfl rfl, [], sp_empty, good_l03Empty, []⟩
@[go_sem] theorem c_l03Empty_f : c_l03Empty.f = 51 := rfl
@[go_sem] theorem c_l03Empty_ms : c_l03Empty.ms = [] := rfl
@[go_sem] theorem c_l03Empty_sp : c_l03Empty.spec = sp_empty := rfl
@[go_sem] theorem c_l03Empty_fz : c_l03Empty.fz = [] := rfl
attribute [go_sem] sp_empty
def atT : TermL → List Int → Int
  | [], _ => 0
  | x :: r, w => if x.1 = w then x.2 else atT r w
def sp_at : List Cv → List Obj' → Tree
  | [.agg [.v (.int .i64 p), .ro (.pr (.sl 2 (.int .i64)) (.int .i64)) ts], .one (.ro (.int .i64) w)], [] => .ret (vi (atT ts w)) []
  | _, _ => .fail
theorem atT_s {ts : TermL} {w : List Int} {i : Nat} (h : i < ts.length) : atT (ts.drop i) w = if (ts.getD i ([], 0)).1 = w then (ts.getD i ([], 0)).2 else atT (ts.drop (i + 1)) w := by
  have e : ts.getD i ([], 0) = ts[i] := by rw [List.getD_eq_getElem?_getD, List.getElem?_eq_getElem h]; rfl
  rw [List.drop_eq_getElem_cons h, atT, e]
set_option maxHeartbeats 4000000 in
set_option maxRecDepth 100000 in
theorem good_l03At : Good Try.prog 87 sp_at := by
  refine good_ofF Try.func87 rfl _ rfl _ rfl (tab [c_l01Same]) (fun X cs os0 K hok hos hK => ?_)
  clear hos; unfold sp_at at hK
  split at hK
  case h_2 => exact hK.elim
  rename_i p ts w
  refine ⟨by simp, by simp, ?_⟩
  simp only [go_sem] at hK hok
  simp (maxSteps := 4000000) only [go_sem, Try.f87, ↓brB_t, ↓brB_f, Nat.reduceAdd, Int.reduceLE, Int.reduceLT, Int.reduceNeg, decide_true, decide_false, Bool.and_self, Nat.succ_eq_add_one, Int.toNat_natCast, Nat.beq_refl, Bool.and_true, Bool.true_and, Bool.false_or, Bool.or_true, List.all_cons, List.all_nil, Nat.reduceMul, Nat.add_zero, Nat.zero_add, List.length_nil, List.length_cons, dite_true, List.nil_append, Nat.reduceBEq, reduceDIte, reduceIte, reduceCtorEq, Bool.or_false, Bool.true_or, Bool.and_false, Bool.false_and, Bool.not_true, Bool.not_false, Option.isSome_some, Option.isSome_none, Option.getD_some, List.getElem?_cons_zero, List.getElem?_cons_succ, eq_self, and_self, List.take_succ_cons, List.take_zero, List.drop_succ_cons, List.drop_zero]
  have hl := len_i hok.1.2.1.1
  clear hok
  refine loop_okF (T := tab [c_l01Same]) [1, 2, 5] [(16, 48)] (fun i : Nat => ⟨27, [(1, ri w), (2, .val (.one (.ptr 16 0))), (5, vi i)], [(16, .box 28 [.v (.int .i64 p), .ro kTerm ts])]⟩)
    (fun i => i ≤ ts.length ∧ atT ts w = atT (ts.drop i) w) (fun i => ts.length - i) 0 rfl rfl ⟨Nat.zero_le _, rfl⟩ (fun i hi => ?_)
  obtain ⟨hi, hm⟩ := hi
  simp only [go_sem, ↓brB_t, ↓brB_f, Nat.reduceAdd, Int.reduceLE, Int.reduceLT, Int.reduceNeg, decide_true, decide_false, Bool.and_self, Nat.succ_eq_add_one, Int.toNat_natCast, Nat.beq_refl, Bool.and_true, Bool.true_and, Bool.false_or, Bool.or_true, List.all_cons, List.all_nil, Nat.reduceMul, Nat.add_zero, Nat.zero_add, List.length_nil, List.length_cons, dite_true, List.nil_append, Nat.reduceBEq, reduceDIte, reduceIte, reduceCtorEq, Bool.or_false, Bool.true_or, Bool.and_false, Bool.false_and, Bool.not_true, Bool.not_false, Option.isSome_some, Option.isSome_none, Option.getD_some, List.getElem?_cons_zero, List.getElem?_cons_succ, eq_self, and_self, List.take_succ_cons, List.take_zero, List.drop_succ_cons, List.drop_zero]
  refine brB_intro (fun h1 => ?_) (fun h1 => ret0 ?_)
  · have h1 := of_decide_eq_true h1
    have hw : w64 ((i : Int) + 1) = ((i + 1 : Nat) : Int) := w64_s (n := ts.length) (by omega) hl
    have hs := atT_s (ts := ts) (w := w) (i := i) (by omega)
    refine ⟨⟨by omega, by omega⟩, brB_intro (fun h2 => ⟨⟨by omega, by omega⟩, ret0 ?_⟩) (fun h2 => ⟨i + 1, [(16, 16)], ⟨by omega, ?_⟩, by omega, rfl, by rw [hw]; rfl⟩)⟩
    · rw [if_pos (of_decide_eq_true h2)] at hs
      rw [hm, hs] at hK; exact hK
    · rw [if_neg (of_decide_eq_false h2)] at hs
      rw [hm, hs]
  · have h1 := of_decide_eq_false h1
    have e : i = ts.length := by omega
    rw [e, List.drop_length] at hm
    rw [hm] at hK; exact hK
def c_l03At : Ctr Try.prog := ⟨87, ent Try.func87 rfl rfl, [], sp_at, good_l03At, []⟩
@[go_sem] theorem c_l03At_f : c_l03At.f = 87 := rfl
@[go_sem] theorem c_l03At_ms : c_l03At.ms = [] := rfl
@[go_sem] theorem c_l03At_sp : c_l03At.spec = sp_at := rfl
@[go_sem] theorem c_l03At_fz : c_l03At.fz = [] := rfl
attribute [go_sem] sp_at
end Go.Proofs.Ytokakggilajjlaa.V
