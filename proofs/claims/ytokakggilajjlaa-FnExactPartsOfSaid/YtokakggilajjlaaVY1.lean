/- Contracts: numbers are sorted by the library. Conditions: told by each spec. -/
import Derived.Test.YtokakggilajjlaaVY0
import Derived.Test.YtokakggilajjlaaVW1
import Derived.Shelf.Small.Bits
set_option linter.unusedVariables false
set_option linter.unusedSimpArgs false
namespace Go.Proofs.Ytokakggilajjlaa.V
open Go Go.Shelf Go.Proofs
def lenF_ren : Go.Shelf.Ren := ⟨fun | 125 => 156 | 128 => 194 | 129 => 195 | n => n, fun | 3 => 3 | 4 => 4 | 5 => 5 | 9 => 9 | 46 => 149 | 51 => 184 | 53 => 132 | n => n, fun | n => n⟩
theorem lenF : Go.Proofs.Lays.n125 Try.prog lenF_ren := {
  mixed := by kernel_rfl,
  f125 := Try.func156.trans (congrArg some (by kernel_rfl)),
  f128 := Try.func194.trans (congrArg some (by kernel_rfl)),
  f129 := Try.func195.trans (congrArg some (by kernel_rfl)),
  t3 := Try.underlying3,
  a3 := Try.isAgg3,
  z3 := Try.sizeOf3,
  v3 := Try.zeroValue3,
  t4 := Try.underlying4,
  a4 := Try.isAgg4,
  z4 := Try.sizeOf4,
  v4 := Try.zeroValue4,
  t5 := Try.underlying5,
  a5 := Try.isAgg5,
  z5 := Try.sizeOf5,
  v5 := Try.zeroValue5,
  t9 := Try.underlying9,
  a9 := Try.isAgg9,
  z9 := Try.sizeOf9,
  v9 := Try.zeroValue9,
  t46 := Try.underlying149,
  a46 := Try.isAgg149,
  z46 := Try.sizeOf149,
  v46 := Try.zeroValue149,
  t51 := Try.underlying184,
  a51 := Try.isAgg184,
  z51 := Try.sizeOf184,
  v51 := Try.zeroValue184,
  t53 := Try.underlying132,
  a53 := Try.isAgg132,
  z53 := Try.sizeOf132,
  v53 := Try.zeroValue132 }
end Go.Proofs.Ytokakggilajjlaa.V
namespace Go.Proofs.Ytokakggilajjlaa.V
open Go
def sp_len : List Cv → List Obj' → Tree
  | [.one (.v (.int .u64 x))], [] => .need (0 ≤ x ∧ x ≤ 12) (.ret (vi ((Lib.bitLen x.toNat : Nat) : Int)) [])
  | _, _ => .fail
theorem good_len : Good Try.prog 156 sp_len := by
  intro E0 cs os0 vs Kc hF hD h16 hO hdis hnof ha hK
  have hI := Inv.enter hF hD h16 hO hdis hnof
  unfold sp_len at hK
  split at hK
  case h_2 => exact hK.elim
  rename_i x
  obtain ⟨u1, rfl, hu1⟩ := one_arg ha
  obtain ⟨⟨rfl, _⟩, _⟩ := hu1
  obtain ⟨⟨h0, h1⟩, hK⟩ := hK
  have hc := Go.Proofs.Any.bits_Len lenF x E0.w h0 (by omega)
  change Calls Try.prog 156 _ _ _ at hc
  refine hc.mono ?_
  rintro e w' ⟨rfl, rfl⟩
  have hb : ∀ n : Fin 13, Lib.bitLen n.1 ≤ 64 := by decide
  have hb := hb ⟨x.toNat, by omega⟩
  refine ⟨_, _, _, E0, rfl, hK, by simp, rfl, hI, ⟨rfl, ?_⟩, rfl⟩
  show _ ∧ _
  simp only at hb
  constructor <;> omega
def c_len : Ctr Try.prog := ⟨156, ent Try.func156 rfl rfl, [], sp_len, good_len, []⟩
@[go_sem] theorem c_len_f : c_len.f = 156 := rfl
@[go_sem] theorem c_len_ms : c_len.ms = [] := rfl
@[go_sem] theorem c_len_sp : c_len.spec = sp_len := rfl
@[go_sem] theorem c_len_fz : c_len.fz = [] := rfl
attribute [go_sem] sp_len
def sp_nanY : List Cv → List Obj' → Tree
  | [.one (.v (.int .i64 x))], [] => .ret (vb false) []
  | _, _ => .fail
set_option maxHeartbeats 4000000 in
set_option maxRecDepth 100000 in
theorem good_nanY : Good Try.prog 220 sp_nanY := by
  refine good_ofF Try.func220 rfl _ rfl _ rfl (tab []) (fun X cs os0 K hok hos hK => ?_)
  clear hos; unfold sp_nanY at hK
  split at hK
  case h_2 => exact hK.elim
  rename_i x
  refine ⟨by simp, by simp, ?_⟩
  simp only [go_sem] at hK hok
  simp (maxSteps := 4000000) only [go_sem, Try.f220, ↓brB_t, ↓brB_f, Nat.reduceAdd, Int.reduceLE, Int.reduceLT, Int.reduceNeg, decide_true, decide_false, Bool.and_self, Nat.succ_eq_add_one, Int.toNat_natCast, Nat.beq_refl, Bool.and_true, Bool.true_and, Bool.false_or, Bool.or_true, List.all_cons, List.all_nil, Nat.reduceMul, Nat.add_zero, Nat.zero_add, List.length_nil, List.length_cons, dite_true, List.nil_append, Nat.reduceBEq, reduceDIte, reduceIte, reduceCtorEq, Bool.or_false, Bool.true_or, Bool.and_false, Bool.false_and, Bool.not_true, Bool.not_false, Option.isSome_some, Option.isSome_none, Option.getD_some, List.getElem?_cons_zero, List.getElem?_cons_succ, eq_self, and_self, List.take_succ_cons, List.take_zero, List.drop_succ_cons, List.drop_zero]
  exact ret0 hK
def c_nanY : Ctr Try.prog := ⟨220, ent Try.func220 rfl rfl, [], sp_nanY, good_nanY, []⟩
@[go_sem] theorem c_nanY_f : c_nanY.f = 220 := rfl
@[go_sem] theorem c_nanY_ms : c_nanY.ms = [] := rfl
@[go_sem] theorem c_nanY_sp : c_nanY.spec = sp_nanY := rfl
@[go_sem] theorem c_nanY_fz : c_nanY.fz = [] := rfl
attribute [go_sem] sp_nanY
def sp_less : List Cv → List Obj' → Tree
  | [.one (.v (.int .i64 x)), .one (.v (.int .i64 y))], [] => .ret (vb (decide (x < y))) []
  | _, _ => .fail
set_option maxHeartbeats 4000000 in
set_option maxRecDepth 100000 in
theorem good_less : Good Try.prog 191 sp_less := by
  refine good_ofF Try.func191 rfl _ rfl _ rfl (tab [c_nanY]) (fun X cs os0 K hok hos hK => ?_)
  clear hos; unfold sp_less at hK
  split at hK
  case h_2 => exact hK.elim
  rename_i x y
  refine ⟨by simp, by simp, ?_⟩
  simp only [go_sem] at hK hok
  simp (maxSteps := 4000000) only [go_sem, Try.f191, ↓brB_t, ↓brB_f, Nat.reduceAdd, Int.reduceLE, Int.reduceLT, Int.reduceNeg, decide_true, decide_false, Bool.and_self, Nat.succ_eq_add_one, Int.toNat_natCast, Nat.beq_refl, Bool.and_true, Bool.true_and, Bool.false_or, Bool.or_true, List.all_cons, List.all_nil, Nat.reduceMul, Nat.add_zero, Nat.zero_add, List.length_nil, List.length_cons, dite_true, List.nil_append, Nat.reduceBEq, reduceDIte, reduceIte, reduceCtorEq, Bool.or_false, Bool.true_or, Bool.and_false, Bool.false_and, Bool.not_true, Bool.not_false, Option.isSome_some, Option.isSome_none, Option.getD_some, List.getElem?_cons_zero, List.getElem?_cons_succ, eq_self, and_self, List.take_succ_cons, List.take_zero, List.drop_succ_cons, List.drop_zero]
  exact ret0 hK
def c_less : Ctr Try.prog := ⟨191, ent Try.func191 rfl rfl, [], sp_less, good_less, []⟩
@[go_sem] theorem c_less_f : c_less.f = 191 := rfl
@[go_sem] theorem c_less_ms : c_less.ms = [] := rfl
@[go_sem] theorem c_less_sp : c_less.spec = sp_less := rfl
@[go_sem] theorem c_less_fz : c_less.fz = [] := rfl
attribute [go_sem] sp_less
/-- A number on its way. -/
def insJ (a : List Int) (x : Int) (r : List Int) (j : Nat) : List Int := a.take j ++ x :: (a.drop j ++ r)
theorem insJ_len {a : List Int} {x : Int} {r : List Int} {j : Nat} (h : j ≤ a.length) : (insJ a x r j).length = a.length + 1 + r.length := by
  unfold insJ
  rw [List.length_append, List.length_cons, List.length_append, List.length_take, List.length_drop]; omega
theorem insJ_x {a : List Int} {x : Int} {r : List Int} {j : Nat} (h : j ≤ a.length) : (insJ a x r j).getD j 0 = x := by
  unfold insJ
  rw [List.getD_eq_getElem?_getD, List.getElem?_append_right (by rw [List.length_take]; omega), List.length_take, show j - min j a.length = 0 by omega]
  rfl
theorem insJ_p {a : List Int} {x : Int} {r : List Int} {j : Nat} (h : j + 1 ≤ a.length) : (insJ a x r (j + 1)).getD j 0 = a.getD j 0 := by
  unfold insJ
  rw [List.getD_eq_getElem?_getD, List.getElem?_append_left (by rw [List.length_take]; omega), List.getElem?_take_of_lt (by omega), List.getD_eq_getElem?_getD]
theorem insJ_swap {a : List Int} {x : Int} {r : List Int} {j : Nat} (h : j + 1 ≤ a.length) : ((insJ a x r (j + 1)).set (j + 1) (a.getD j 0)).set j x = insJ a x r j := by
  have hj : j < a.length := by omega
  have e : a.getD j 0 = a[j] := by rw [List.getD_eq_getElem?_getD, List.getElem?_eq_getElem hj]; rfl
  have hl : (a.take j).length = j := by rw [List.length_take]; omega
  unfold insJ
  rw [e, List.take_succ_eq_append_getElem hj, List.append_assoc, List.set_append_right _ _ (by omega), hl, show j + 1 - j = 1 by omega, List.set_append_right _ _ (by omega), hl, Nat.sub_self, List.drop_eq_getElem_cons hj]
  rfl
theorem ins_up {a : List Int} {x : Int} {j : Nat} (ha : a.Pairwise (· ≤ ·)) (hj : j ≤ a.length) (h1 : ∀ y ∈ a.drop j, x ≤ y) (h2 : ∀ k, j = k + 1 → a.getD k 0 ≤ x) : (a.take j ++ x :: a.drop j).Pairwise (· ≤ ·) := by
  have hsplit : (a.take j ++ a.drop j).Pairwise (· ≤ ·) := by rw [List.take_append_drop]; exact ha
  obtain ⟨p1, p2, p3⟩ := List.pairwise_append.1 hsplit
  refine List.pairwise_append.2 ⟨p1, List.pairwise_cons.2 ⟨h1, p2⟩, fun y hy z hz => ?_⟩
  have hyx : y ≤ x := by
    cases j with
    | zero => simp at hy
    | succ k =>
      have h3 := h2 k rfl
      have hk : k < a.length := by omega
      have e : a.getD k 0 = a[k] := by rw [List.getD_eq_getElem?_getD, List.getElem?_eq_getElem hk]; rfl
      rw [List.take_succ_eq_append_getElem hk] at hy p1
      rcases List.mem_append.1 hy with hy | hy
      · have := (List.pairwise_append.1 p1).2.2 y hy a[k] (by simp)
        omega
      · rw [List.mem_singleton.1 hy]; omega
  rcases List.mem_cons.1 hz with rfl | hz
  · exact hyx
  · exact p3 y hy z hz
theorem sortI_len (l : List Int) : (sortI l).length = l.length := (sortI_perm l).length_eq
theorem ins_done {l : List Int} {i j : Nat} (hi : i < l.length) (hj : j ≤ i) (h1 : ∀ y ∈ (sortI (l.take i)).drop j, l.getD i 0 ≤ y) (h2 : ∀ k, j = k + 1 → (sortI (l.take i)).getD k 0 ≤ l.getD i 0) : insJ (sortI (l.take i)) (l.getD i 0) (l.drop (i + 1)) j = sortI (l.take (i + 1)) ++ l.drop (i + 1) := by
  have hal : (sortI (l.take i)).length = i := by rw [sortI_len, List.length_take]; omega
  have e : l.getD i 0 = l[i] := by rw [List.getD_eq_getElem?_getD, List.getElem?_eq_getElem hi]; rfl
  have hs : sortI (l.take (i + 1)) = (sortI (l.take i)).take j ++ l.getD i 0 :: (sortI (l.take i)).drop j := by
    refine sortI_eq (ins_up (sortI_up _) (by omega) h1 h2) ?_
    rw [List.take_succ_eq_append_getElem hi, e]
    refine List.Perm.trans ?_ List.perm_middle.symm
    rw [List.take_append_drop]
    exact ((sortI_perm _).symm.append_right [l[i]]).trans (List.perm_append_singleton _ _)
  rw [hs, insJ, List.append_assoc, List.cons_append]
theorem sortI_one (l : List Int) : sortI (l.take 1) ++ l.drop 1 = l := by
  have e : sortI (l.take 1) = l.take 1 := by
    refine sortI_eq ?_ (List.Perm.refl _)
    cases l with
    | nil => exact List.Pairwise.nil
    | cons x l => exact List.pairwise_singleton ..
  rw [e, List.take_append_drop]
theorem ins_start {l : List Int} {i : Nat} (hi : i < l.length) : sortI (l.take i) ++ l.drop i = insJ (sortI (l.take i)) (l.getD i 0) (l.drop (i + 1)) i := by
  have hal : (sortI (l.take i)).length = i := by rw [sortI_len, List.length_take]; omega
  have e : l.getD i 0 = l[i] := by rw [List.getD_eq_getElem?_getD, List.getElem?_eq_getElem hi]; rfl
  rw [insJ, List.take_of_length_le (Nat.le_of_eq hal), List.drop_eq_nil_of_le (Nat.le_of_eq hal), List.nil_append, e, List.drop_eq_getElem_cons hi]
def sp_ins : List Cv → List Obj' → Tree
  | [.one (.own 0), .one (.v (.int .i64 a)), .one (.v (.int .i64 b))], [.row t (.int .i64) l] => .need (a = 0 ∧ b = (l.length : Int) ∧ l.length ≤ 1000) (.ret (.tup []) [.row t (.int .i64) (sortI l)])
  | _, _ => .fail
set_option maxHeartbeats 4000000 in
set_option maxRecDepth 100000 in
theorem good_ins : Good Try.prog 185 sp_ins := by
  refine good_ofF Try.func185 rfl _ rfl _ rfl (tab [c_less]) (fun X cs os0 K hok hos hK => ?_)
  unfold sp_ins at hK
  split at hK
  case h_2 => exact hK.elim
  rename_i a b t l
  refine ⟨by simp, by simp, ?_⟩
  simp only [go_sem] at hK hok hos
  simp (maxSteps := 4000000) only [go_sem, Try.f185, ↓brB_t, ↓brB_f, Nat.reduceAdd, Int.reduceLE, Int.reduceLT, Int.reduceNeg, decide_true, decide_false, Bool.and_self, Nat.succ_eq_add_one, Int.toNat_natCast, Nat.beq_refl, Bool.and_true, Bool.true_and, Bool.false_or, Bool.or_true, List.all_cons, List.all_nil, Nat.reduceMul, Nat.add_zero, Nat.zero_add, List.length_nil, List.length_cons, dite_true, List.nil_append, Nat.reduceBEq, reduceDIte, reduceIte, reduceCtorEq, Bool.or_false, Bool.true_or, Bool.and_false, Bool.false_and, Bool.not_true, Bool.not_false, Option.isSome_some, Option.isSome_none, Option.getD_some, List.getElem?_cons_zero, List.getElem?_cons_succ, eq_self, and_self, List.take_succ_cons, List.take_zero, List.drop_succ_cons, List.drop_zero]
  obtain ⟨⟨rfl, rfl, hl⟩, hK⟩ := hK
  clear hok hos
  refine loop_okF (T := tab [c_less]) [0, 1, 2, 6] [(0, 0)] (fun i : Nat => ⟨49, [(0, ow 0), (1, vi 0), (2, vi (l.length : Nat)), (6, vi i)], [(0, .row t (.int .i64) (sortI (l.take i) ++ l.drop i))]⟩)
    (fun i => 1 ≤ i ∧ i ≤ l.length + 1) (fun i => l.length + 1 - i) 1 rfl (by rw [sortI_one]; rfl) ⟨by omega, by omega⟩ (fun i hi => ?_)
  obtain ⟨hi0, hi⟩ := hi
  simp only [go_sem, ↓brB_t, ↓brB_f, Nat.reduceAdd, Int.reduceLE, Int.reduceLT, Int.reduceNeg, decide_true, decide_false, Bool.and_self, Nat.succ_eq_add_one, Int.toNat_natCast, Nat.beq_refl, Bool.and_true, Bool.true_and, Bool.false_or, Bool.or_true, List.all_cons, List.all_nil, Nat.reduceMul, Nat.add_zero, Nat.zero_add, List.length_nil, List.length_cons, dite_true, List.nil_append, Nat.reduceBEq, reduceDIte, reduceIte, reduceCtorEq, Bool.or_false, Bool.true_or, Bool.and_false, Bool.false_and, Bool.not_true, Bool.not_false, Option.isSome_some, Option.isSome_none, Option.getD_some, List.getElem?_cons_zero, List.getElem?_cons_succ, eq_self, and_self, List.take_succ_cons, List.take_zero, List.drop_succ_cons, List.drop_zero]
  refine brB_intro (fun h1 => ?_) (fun h1 => retN [0] rfl ?_)
  · have h1 := of_decide_eq_true h1
    have hil : i < l.length := by omega
    have hal : (sortI (l.take i)).length = i := by rw [sortI_len, List.length_take]; omega
    have hw1 : w64 ((i : Int) + 1) = ((i + 1 : Nat) : Int) := w64_s (n := l.length) (by omega) (by omega)
    have hend := fun j => ins_done (l := l) (i := i) (j := j) hil
    rw [ins_start hil]
    generalize sortI (l.take i) = a at *
    generalize l.getD i 0 = x at *
    refine loop_okF (T := tab [c_less]) [0, 1, 2, 6, 7] [(0, 0)] (fun j : Nat => ⟨49, [(0, ow 0), (1, vi 0), (2, vi (l.length : Nat)), (6, vi i), (7, vi j)], [(0, .row t (.int .i64) (insJ a x (l.drop (i + 1)) j))]⟩)
      (fun j => j ≤ i ∧ ∀ y ∈ a.drop j, x ≤ y) (fun j => j) i rfl rfl ⟨Nat.le_refl _, fun y hy => by rw [List.drop_eq_nil_of_le (by omega)] at hy; cases hy⟩ (fun j hj => ?_)
    obtain ⟨hj, hx⟩ := hj
    simp only [go_sem, ↓brB_t, ↓brB_f, Nat.reduceAdd, Int.reduceLE, Int.reduceLT, Int.reduceNeg, decide_true, decide_false, Bool.and_self, Nat.succ_eq_add_one, Int.toNat_natCast, Nat.beq_refl, Bool.and_true, Bool.true_and, Bool.false_or, Bool.or_true, List.all_cons, List.all_nil, Nat.reduceMul, Nat.add_zero, Nat.zero_add, List.length_nil, List.length_cons, dite_true, List.nil_append, Nat.reduceBEq, reduceDIte, reduceIte, reduceCtorEq, Bool.or_false, Bool.true_or, Bool.and_false, Bool.false_and, Bool.not_true, Bool.not_false, Option.isSome_some, Option.isSome_none, Option.getD_some, List.getElem?_cons_zero, List.getElem?_cons_succ, eq_self, and_self, List.take_succ_cons, List.take_zero, List.drop_succ_cons, List.drop_zero]
    refine brB_intro (fun h2 => ?_) (fun h2 => ?_)
    · have h2 := of_decide_eq_true h2
      obtain ⟨k, rfl⟩ : ∃ k, j = k + 1 := ⟨j - 1, by omega⟩
      have wk : w64 (((k + 1 : Nat) : Int) - 1) = (k : Int) := by rw [w64_id (by omega) (by omega)]; omega
      rw [wk, Int.toNat_natCast, List.length_set, insJ_len (by omega), insJ_x (by omega), insJ_p (by omega), insJ_swap (by omega)]
      have hld : (l.drop (i + 1)).length = l.length - (i + 1) := List.length_drop ..
      refine ⟨⟨by omega, by omega⟩, ⟨by omega, by omega⟩, by kernel_rfl, brB_intro (fun h3 => ?_) (fun h3 => ?_)⟩
      · have h3 : x < a.getD k 0 := of_decide_eq_true h3
        refine ⟨⟨by omega, by omega⟩, ⟨by omega, by omega⟩, ⟨by omega, by omega⟩, ⟨by omega, by omega⟩, by kernel_rfl, k, [(0, 0)], ⟨by omega, fun y hy => ?_⟩, by omega, rfl, rfl⟩
        have hk : k < a.length := by omega
        have e : a.getD k 0 = a[k] := by rw [List.getD_eq_getElem?_getD, List.getElem?_eq_getElem hk]; rfl
        rw [List.drop_eq_getElem_cons hk] at hy
        rcases List.mem_cons.1 hy with rfl | hy
        · rw [← e]; exact Int.le_of_lt h3
        · exact hx y hy
      · have h3 : ¬ x < a.getD k 0 := of_decide_eq_false h3
        rw [hw1, hend (k + 1) (by omega) hx (fun k' e => by
          have e : k = k' := by omega
          subst e
          exact Int.not_lt.1 h3)]
        exact ⟨i + 1, [(0, 0)], ⟨by omega, by omega⟩, by omega, rfl, rfl⟩
    · have h2 := of_decide_eq_false h2
      have e : j = 0 := by omega
      subst e
      rw [hw1, hend 0 (by omega) hx (fun k e => by omega)]
      exact ⟨by kernel_rfl, i + 1, [(0, 0)], ⟨by omega, by omega⟩, by omega, rfl, rfl⟩
  · have h1 := of_decide_eq_false h1
    have e1 : l.take i = l := List.take_of_length_le (by omega)
    have e2 : l.drop i = [] := List.drop_eq_nil_of_le (by omega)
    rw [e1, e2, List.append_nil]; exact hK
def c_ins : Ctr Try.prog := ⟨185, ent Try.func185 rfl rfl, [true], sp_ins, good_ins, []⟩
@[go_sem] theorem c_ins_f : c_ins.f = 185 := rfl
@[go_sem] theorem c_ins_ms : c_ins.ms = [true] := rfl
@[go_sem] theorem c_ins_sp : c_ins.spec = sp_ins := rfl
@[go_sem] theorem c_ins_fz : c_ins.fz = [] := rfl
attribute [go_sem] sp_ins
def sp_pdq : List Cv → List Obj' → Tree
  | [.one (.own 0), .one (.v (.int .i64 a)), .one (.v (.int .i64 b)), .one (.v (.int .i64 m))], [.row t (.int .i64) l] => .need (a = 0 ∧ b = (l.length : Int) ∧ l.length ≤ 12) (.ret (.tup []) [.row t (.int .i64) (sortI l)])
  | _, _ => .fail
set_option maxHeartbeats 4000000 in
set_option maxRecDepth 100000 in
theorem good_pdq : Good Try.prog 155 sp_pdq := by
  refine good_ofF Try.func155 rfl _ rfl _ rfl (tab [c_ins]) (fun X cs os0 K hok hos hK => ?_)
  unfold sp_pdq at hK
  split at hK
  case h_2 => exact hK.elim
  rename_i a b m t l
  refine ⟨by simp, by simp, ?_⟩
  simp only [go_sem] at hK hok hos
  simp (maxSteps := 4000000) only [go_sem, Try.f155, ↓brB_t, ↓brB_f, Nat.reduceAdd, Int.reduceLE, Int.reduceLT, Int.reduceNeg, decide_true, decide_false, Bool.and_self, Nat.succ_eq_add_one, Int.toNat_natCast, Nat.beq_refl, Bool.and_true, Bool.true_and, Bool.false_or, Bool.or_true, List.all_cons, List.all_nil, Nat.reduceMul, Nat.add_zero, Nat.zero_add, List.length_nil, List.length_cons, dite_true, List.nil_append, Nat.reduceBEq, reduceDIte, reduceIte, reduceCtorEq, Bool.or_false, Bool.true_or, Bool.and_false, Bool.false_and, Bool.not_true, Bool.not_false, Option.isSome_some, Option.isSome_none, Option.getD_some, List.getElem?_cons_zero, List.getElem?_cons_succ, eq_self, and_self, List.take_succ_cons, List.take_zero, List.drop_succ_cons, List.drop_zero]
  obtain ⟨⟨rfl, rfl, hl⟩, hK⟩ := hK
  clear hok hos
  refine loop_okF (T := tab [c_ins]) [0, 1, 2, 3, 8, 9] [(0, 0)] (fun _ : Unit => ⟨134, [(0, ow 0), (1, vi 0), (2, vi (l.length : Nat)), (3, vi m), (8, vb true), (9, vb true)], [(0, .row t (.int .i64) l)]⟩)
    (fun _ => True) (fun _ => 0) () rfl rfl trivial (fun _ _ => ?_)
  simp only [go_sem, ↓brB_t, ↓brB_f, Nat.reduceAdd, Int.reduceLE, Int.reduceLT, Int.reduceNeg, decide_true, decide_false, Bool.and_self, Nat.succ_eq_add_one, Int.toNat_natCast, Nat.beq_refl, Bool.and_true, Bool.true_and, Bool.false_or, Bool.or_true, List.all_cons, List.all_nil, Nat.reduceMul, Nat.add_zero, Nat.zero_add, List.length_nil, List.length_cons, dite_true, List.nil_append, Nat.reduceBEq, reduceDIte, reduceIte, reduceCtorEq, Bool.or_false, Bool.true_or, Bool.and_false, Bool.false_and, Bool.not_true, Bool.not_false, Option.isSome_some, Option.isSome_none, Option.getD_some, List.getElem?_cons_zero, List.getElem?_cons_succ, eq_self, and_self, List.take_succ_cons, List.take_zero, List.drop_succ_cons, List.drop_zero]
  refine brB_intro (fun _ => ⟨⟨trivial, trivial, by omega⟩, retN [0] rfl hK⟩) (fun h => ?_)
  have h := of_decide_eq_false h
  rw [w64_id (by omega) (by omega)] at h
  omega
def c_pdq : Ctr Try.prog := ⟨155, ent Try.func155 rfl rfl, [true], sp_pdq, good_pdq, []⟩
@[go_sem] theorem c_pdq_f : c_pdq.f = 155 := rfl
@[go_sem] theorem c_pdq_ms : c_pdq.ms = [true] := rfl
@[go_sem] theorem c_pdq_sp : c_pdq.spec = sp_pdq := rfl
@[go_sem] theorem c_pdq_fz : c_pdq.fz = [] := rfl
attribute [go_sem] sp_pdq
def sp_sort : List Cv → List Obj' → Tree
  | [.one (.own 0)], [.row t (.int .i64) l] => .need (l.length ≤ 12) (.ret (.tup []) [.row t (.int .i64) (sortI l)])
  | _, _ => .fail
set_option maxHeartbeats 4000000 in
set_option maxRecDepth 100000 in
theorem good_sort : Good Try.prog 105 sp_sort := by
  refine good_ofF Try.func105 rfl _ rfl _ rfl (tab [c_len, c_pdq]) (fun X cs os0 K hok hos hK => ?_)
  unfold sp_sort at hK
  split at hK
  case h_2 => exact hK.elim
  rename_i t l
  refine ⟨by simp, by simp, ?_⟩
  simp only [go_sem] at hK hok hos
  simp (maxSteps := 4000000) only [go_sem, Try.f105, ↓brB_t, ↓brB_f, Nat.reduceAdd, Int.reduceLE, Int.reduceLT, Int.reduceNeg, decide_true, decide_false, Bool.and_self, Nat.succ_eq_add_one, Int.toNat_natCast, Nat.beq_refl, Bool.and_true, Bool.true_and, Bool.false_or, Bool.or_true, List.all_cons, List.all_nil, Nat.reduceMul, Nat.add_zero, Nat.zero_add, List.length_nil, List.length_cons, dite_true, List.nil_append, Nat.reduceBEq, reduceDIte, reduceIte, reduceCtorEq, Bool.or_false, Bool.true_or, Bool.and_false, Bool.false_and, Bool.not_true, Bool.not_false, Option.isSome_some, Option.isSome_none, Option.getD_some, List.getElem?_cons_zero, List.getElem?_cons_succ, eq_self, and_self, List.take_succ_cons, List.take_zero, List.drop_succ_cons, List.drop_zero]
  obtain ⟨hl, hK⟩ := hK
  clear hok hos
  have e : IntKind.u64.wrap (l.length : Int) = (l.length : Int) := by
    show (l.length : Int) % 18446744073709551616 = _
    omega
  rw [e]
  exact ⟨⟨trivial, by omega⟩, ⟨trivial, trivial, hl⟩, retN [0] rfl hK⟩
def c_sort : Ctr Try.prog := ⟨105, ent Try.func105 rfl rfl, [true], sp_sort, good_sort, []⟩
@[go_sem] theorem c_sort_f : c_sort.f = 105 := rfl
@[go_sem] theorem c_sort_ms : c_sort.ms = [true] := rfl
@[go_sem] theorem c_sort_sp : c_sort.spec = sp_sort := rfl
@[go_sem] theorem c_sort_fz : c_sort.fz = [] := rfl
attribute [go_sem] sp_sort
end Go.Proofs.Ytokakggilajjlaa.V
