/- Packed texts of this session's: VF1, VF2, VG, VS1, VF3, VI0, VI1, VDel, VI3, VLX, VCat, VD0, VI2, VIW, VI4, VS2, VS3, VS6, VS4, VI5, VS7, PO, VQ. Conditions: in each. -/
import Derived.Test.YthfmlelodmcgkaaGreatProg
import Derived.Test.YthfmlelodmcgkaaGreatZfd0
set_option linter.unusedVariables false
set_option linter.unusedSimpArgs false
set_option linter.unusedSectionVars false
section
namespace Go.Proofs.YthfmlelodmcgkaaGreat.V
open Go
def leadI (l : List Int) : Int := if leadN l < l.length then (leadN l : Int) else -1
theorem find_lead : ∀ l : List Int, l.findIdx? (fun x => !decide (x = 0)) = if leadN l < l.length then some (leadN l) else none
  | [] => rfl
  | x :: l => by
    rw [List.findIdx?_cons, leadN]
    by_cases h : x = 0
    · rw [if_pos h, decide_eq_true h, Bool.not_true, if_neg (by decide), find_lead l, List.length_cons]
      by_cases h2 : leadN l < l.length
      · rw [if_pos h2, if_pos (by omega)]; rfl
      · rw [if_neg h2, if_neg (by omega)]; rfl
    · rw [if_neg h, decide_eq_false h, Bool.not_false, if_pos rfl, if_pos (by simp)]
theorem fst_lead (l : List Int) : K.fstI l = leadI l := by
  unfold K.fstI K.idxFrom leadI
  rw [find_lead]
  split
  · rename_i j h
    split at h
    · injection h with h; rw [if_pos (by omega)]; subst h; show ((0 + leadN l : Nat) : Int) = _; omega
    · cases h
  · rename_i h
    split at h
    · cases h
    · rw [if_neg (by omega)]
theorem idx_lead (l : List Int) : idxP (fun x => !decide (x = 0)) l = leadI l := by
  unfold idxP leadI
  rw [find_lead]
  split
  · rename_i j h
    split at h
    · injection h with h; rw [if_pos (by omega)]; subst h; rfl
    · cases h
  · rename_i h
    split at h
    · cases h
    · rw [if_neg (by omega)]
def sp_first1 : List Cv → List Obj' → Tree
  | [.one (.v (.int .i64 x))], [] => .ret (vb (!decide (x = 0))) []
  | _, _ => .fail
set_option maxHeartbeats 4000000 in
set_option maxRecDepth 100000 in
theorem good_first1 : Good Tryz.prog 116 sp_first1 := by
  refine good_ofF Tryz.func116 rfl _ rfl _ rfl (tab []) (fun X cs os0 K hok hos hK => ?_)
  clear hos; unfold sp_first1 at hK
  split at hK
  case h_2 => exact hK.elim
  rename_i x
  refine ⟨by simp, by simp, ?_⟩
  simp only [go_sem] at hK hok
  simp (maxSteps := 4000000) only [go_sem, Tryz.f116, ↓brB_t, ↓brB_f, Nat.reduceAdd, Int.reduceLE, Int.reduceLT, Int.reduceNeg, decide_true, decide_false, Bool.and_self, Nat.succ_eq_add_one, Int.toNat_natCast, Nat.beq_refl, Bool.and_true, Bool.true_and, Bool.false_or, Bool.or_true, List.all_cons, List.all_nil, Nat.reduceMul, Nat.add_zero, Nat.zero_add, List.length_nil, List.length_cons, dite_true, List.nil_append, Nat.reduceBEq, reduceDIte, reduceIte, reduceCtorEq, Bool.or_false, Bool.true_or, Bool.and_false, Bool.false_and, Bool.not_true, Bool.not_false, Option.isSome_some, Option.isSome_none, Option.getD_some, List.getElem?_cons_zero, List.getElem?_cons_succ, eq_self, and_self, List.take_succ_cons, List.take_zero, List.drop_succ_cons, List.drop_zero]
  exact ret0 hK
def nzP (x : HT [Kn.int .i64]) : Option Bool := some (!decide ((x.1 : Int) = 0))
def p_first1 : PF0 Tryz.prog := ⟨116, entB Tryz.func116 rfl rfl, [.int .i64], .bool, nzP, sp_first1, good_first1, fun xs y h K hK => by injection h with h; subst h; exact hK⟩
@[go_sem] theorem p_first1_f : p_first1.f = 116 := rfl
@[go_sem] theorem p_first1_v : Rv.val (.one (.pf p_first1.ks p_first1.r p_first1.g)) = Rv.val (.one (.pf [.int .i64] .bool nzP)) := rfl
def sp_lead : List Cv → List Obj' → Tree
  | [.one (.ro (.int .i64) l)], [] => .ret (vi (leadI l)) []
  | _, _ => .fail
set_option maxHeartbeats 4000000 in
set_option maxRecDepth 100000 in
theorem good_first : Good Tryz.prog 75 sp_lead := by
  refine good_ofF Tryz.func75 rfl _ rfl _ rfl (tab [c_indexF] [p_first1]) (fun X cs os0 K hok hos hK => ?_)
  clear hos; unfold sp_lead at hK
  split at hK
  case h_2 => exact hK.elim
  rename_i l
  refine ⟨by simp, by simp, ?_⟩
  simp only [go_sem] at hK hok
  simp (maxSteps := 4000000) only [go_sem, Tryz.f75, ↓brB_t, ↓brB_f, Nat.reduceAdd, Int.reduceLE, Int.reduceLT, Int.reduceNeg, decide_true, decide_false, Bool.and_self, Nat.succ_eq_add_one, Int.toNat_natCast, Nat.beq_refl, Bool.and_true, Bool.true_and, Bool.false_or, Bool.or_true, List.all_cons, List.all_nil, Nat.reduceMul, Nat.add_zero, Nat.zero_add, List.length_nil, List.length_cons, dite_true, List.nil_append, Nat.reduceBEq, reduceDIte, reduceIte, reduceCtorEq, Bool.or_false, Bool.true_or, Bool.and_false, Bool.false_and, Bool.not_true, Bool.not_false, Option.isSome_some, Option.isSome_none, Option.getD_some, List.getElem?_cons_zero, List.getElem?_cons_succ, eq_self, and_self, List.take_succ_cons, List.take_zero, List.drop_succ_cons, List.drop_zero]
  clear hok
  refine ⟨fun x _ => rfl, ret0 ?_⟩
  have e : idxP (tst nzP) l = leadI l := idx_lead l
  rw [e]; exact hK
def c_first : Ctr Tryz.prog := ⟨75, ent Tryz.func75 rfl rfl, [], sp_lead, good_first, []⟩
@[go_sem] theorem c_first_f : c_first.f = 75 := rfl
@[go_sem] theorem c_first_ms : c_first.ms = [] := rfl
@[go_sem] theorem c_first_sp : c_first.spec = sp_lead := rfl
@[go_sem] theorem c_first_fz : c_first.fz = [] := rfl
attribute [go_sem] sp_lead
def powF (a p : Int) : Nat → Int
  | 0 => 1
  | k + 1 => powF a p k * a % p
def sp_power : List Cv → List Obj' → Tree
  | [.one (.v (.int .i64 a)), .one (.v (.int .i64 k)), .one (.v (.int .i64 p))], [] => .need ((0 ≤ a ∧ a ≤ 12) ∧ (2 ≤ p ∧ p ≤ 13) ∧ 0 ≤ k ∧ k ≤ 1000) (.ret (vi (powF a p k.toNat)) [])
  | _, _ => .fail
theorem mul_r12 {x y : Int} (h : 0 ≤ x ∧ x ≤ 12) (h' : 0 ≤ y ∧ y ≤ 12) : 0 ≤ x * y ∧ x * y ≤ 144 :=
  ⟨Int.mul_nonneg h.1 h'.1, Int.le_trans (Int.mul_le_mul h.2 h'.2 h'.1 (by decide)) (by decide)⟩
theorem powF_r {a p : Int} (hp : 2 ≤ p) (k : Nat) : 0 ≤ powF a p k ∧ powF a p k < p := by
  cases k with
  | zero => show (0 : Int) ≤ 1 ∧ (1 : Int) < p; omega
  | succ k => exact ⟨Int.emod_nonneg _ (by omega), Int.emod_lt_of_pos _ (by omega)⟩
set_option maxHeartbeats 4000000 in
set_option maxRecDepth 100000 in
theorem good_power : Good Tryz.prog 152 sp_power := by
  refine good_ofF Tryz.func152 rfl _ rfl _ rfl (tab []) (fun X cs os0 K hok hos hK => ?_)
  clear hos; unfold sp_power at hK
  split at hK
  case h_2 => exact hK.elim
  rename_i a k p
  refine ⟨by simp, by simp, ?_⟩
  simp only [go_sem] at hK hok
  simp (maxSteps := 4000000) only [go_sem, Tryz.f152, ↓brB_t, ↓brB_f, Nat.reduceAdd, Int.reduceLE, Int.reduceLT, Int.reduceNeg, decide_true, decide_false, Bool.and_self, Nat.succ_eq_add_one, Int.toNat_natCast, Nat.beq_refl, Bool.and_true, Bool.true_and, Bool.false_or, Bool.or_true, List.all_cons, List.all_nil, Nat.reduceMul, Nat.add_zero, Nat.zero_add, List.length_nil, List.length_cons, dite_true, List.nil_append, Nat.reduceBEq, reduceDIte, reduceIte, reduceCtorEq, Bool.or_false, Bool.true_or, Bool.and_false, Bool.false_and, Bool.not_true, Bool.not_false, Option.isSome_some, Option.isSome_none, Option.getD_some, List.getElem?_cons_zero, List.getElem?_cons_succ, eq_self, and_self, List.take_succ_cons, List.take_zero, List.drop_succ_cons, List.drop_zero]
  obtain ⟨⟨ha, hp, hk⟩, hK⟩ := hK
  clear hok
  obtain ⟨N, rfl⟩ : ∃ N : Nat, k = N := ⟨k.toNat, by omega⟩
  rw [Int.toNat_natCast] at hK
  refine loop_okF (T := tab []) [0, 2, 7, 8, 9] [] (fun i : Nat => ⟨18, [(0, vi a), (2, vi p), (7, vi (powF a p i)), (8, vi N), (9, vi i)], []⟩)
    (fun i => i ≤ N) (fun i => N - i) 0 rfl rfl (Nat.zero_le _) (fun i hi => ?_)
  simp only [go_sem, ↓brB_t, ↓brB_f, Nat.reduceAdd, Int.reduceLE, Int.reduceLT, Int.reduceNeg, decide_true, decide_false, Bool.and_self, Nat.succ_eq_add_one, Int.toNat_natCast, Nat.beq_refl, Bool.and_true, Bool.true_and, Bool.false_or, Bool.or_true, List.all_cons, List.all_nil, Nat.reduceMul, Nat.add_zero, Nat.zero_add, List.length_nil, List.length_cons, dite_true, List.nil_append, Nat.reduceBEq, reduceDIte, reduceIte, reduceCtorEq, Bool.or_false, Bool.true_or, Bool.and_false, Bool.false_and, Bool.not_true, Bool.not_false, Option.isSome_some, Option.isSome_none, Option.getD_some, List.getElem?_cons_zero, List.getElem?_cons_succ, eq_self, and_self, List.take_succ_cons, List.take_zero, List.drop_succ_cons, List.drop_zero]
  have hr := powF_r (a := a) hp.1 i
  have hm := mul_r12 (x := powF a p i) (y := a) (by omega) ha
  refine brB_intro (fun h1 => ?_) (fun h1 => ?_)
  · have h1 := of_decide_eq_true h1
    have hw1 : w64 ((i : Int) + 1) = ((i + 1 : Nat) : Int) := w64_id (by omega) (by omega)
    have hw2 : (w64 (powF a p i * a)).tmod p = powF a p (i + 1) := by
      rw [w64_id (by omega) (by omega), Int.tmod_eq_emod_of_nonneg hm.1]; rfl
    exact ⟨by omega, i + 1, [], by omega, by omega, rfl, by rw [hw1, hw2]; rfl⟩
  · have h1 := of_decide_eq_false h1
    have e : i = N := by omega
    rw [e]; exact ret0 hK
def c_power : Ctr Tryz.prog := ⟨152, ent Tryz.func152 rfl rfl, [], sp_power, good_power, []⟩
@[go_sem] theorem c_power_f : c_power.f = 152 := rfl
@[go_sem] theorem c_power_ms : c_power.ms = [] := rfl
@[go_sem] theorem c_power_sp : c_power.spec = sp_power := rfl
@[go_sem] theorem c_power_fz : c_power.fz = [] := rfl
attribute [go_sem] sp_power
def invF (p a : Int) : Int := powF a p (p - 2).toNat
theorem primeB_r {p : Int} (h : primeB p = true) : 2 ≤ p ∧ p ≤ 13 := by
  simp [primeB] at h
  omega
def sp_inv : List Cv → List Obj' → Tree
  | [.one (.v (.int .i64 a)), .one (.v (.int .i64 p))], [] => .need ((0 ≤ a ∧ a ≤ 12) ∧ 2 ≤ p ∧ p ≤ 13) (.ret (vi (invF p a)) [])
  | _, _ => .fail
set_option maxHeartbeats 4000000 in
set_option maxRecDepth 100000 in
theorem good_inv : Good Tryz.prog 118 sp_inv := by
  refine good_ofF Tryz.func118 rfl _ rfl _ rfl (tab [c_power]) (fun X cs os0 K hok hos hK => ?_)
  clear hos; unfold sp_inv at hK
  split at hK
  case h_2 => exact hK.elim
  rename_i a p
  refine ⟨by simp, by simp, ?_⟩
  simp only [go_sem] at hK hok
  simp (maxSteps := 4000000) only [go_sem, Tryz.f118, ↓brB_t, ↓brB_f, Nat.reduceAdd, Int.reduceLE, Int.reduceLT, Int.reduceNeg, decide_true, decide_false, Bool.and_self, Nat.succ_eq_add_one, Int.toNat_natCast, Nat.beq_refl, Bool.and_true, Bool.true_and, Bool.false_or, Bool.or_true, List.all_cons, List.all_nil, Nat.reduceMul, Nat.add_zero, Nat.zero_add, List.length_nil, List.length_cons, dite_true, List.nil_append, Nat.reduceBEq, reduceDIte, reduceIte, reduceCtorEq, Bool.or_false, Bool.true_or, Bool.and_false, Bool.false_and, Bool.not_true, Bool.not_false, Option.isSome_some, Option.isSome_none, Option.getD_some, List.getElem?_cons_zero, List.getElem?_cons_succ, eq_self, and_self, List.take_succ_cons, List.take_zero, List.drop_succ_cons, List.drop_zero]
  obtain ⟨⟨ha, hp⟩, hK⟩ := hK
  clear hok
  have e : w64 (p - 2) = p - 2 := w64_id (by omega) (by omega)
  rw [e]
  exact ⟨⟨ha, hp, by omega, by omega⟩, ret0 hK⟩
def c_inv : Ctr Tryz.prog := ⟨118, ent Tryz.func118 rfl rfl, [], sp_inv, good_inv, []⟩
@[go_sem] theorem c_inv_f : c_inv.f = 118 := rfl
@[go_sem] theorem c_inv_ms : c_inv.ms = [] := rfl
@[go_sem] theorem c_inv_sp : c_inv.spec = sp_inv := rfl
@[go_sem] theorem c_inv_fz : c_inv.fz = [] := rfl
attribute [go_sem] sp_inv
def rowOk (p : Int) (v : List Int) : Prop := ∀ x ∈ v, 0 ≤ x ∧ x < p
theorem rowOk_get {p : Int} {v : List Int} (h : rowOk p v) (hp : 0 < p) (i : Nat) : 0 ≤ v.getD i 0 ∧ v.getD i 0 < p := by
  by_cases hi : i < v.length
  · rw [get_lt hi]; exact h _ (List.getElem_mem _)
  · rw [get_ge (by omega)]; omega
theorem mix_len {v X : List Int} {i : Nat} (hl : X.length = v.length) (hi : i ≤ v.length) : (X.take i ++ v.drop i).length = v.length := by
  rw [List.length_append, List.length_take, List.length_drop]; omega
theorem mix_get {v X : List Int} {i : Nat} (hl : X.length = v.length) (hi : i < v.length) : (X.take i ++ v.drop i).getD i 0 = v.getD i 0 := by
  rw [List.getD_eq_getElem?_getD, List.getElem?_append_right (by rw [List.length_take]; omega), List.length_take, Nat.min_eq_left (by omega), Nat.sub_self, List.getElem?_drop, Nat.add_zero, ← List.getD_eq_getElem?_getD]
theorem mix_set {v X : List Int} {i : Nat} (hl : X.length = v.length) (hi : i < v.length) : (X.take i ++ v.drop i).set i (X.getD i 0) = X.take (i + 1) ++ v.drop (i + 1) := by
  rw [List.drop_eq_getElem_cons hi, List.set_append_right _ _ (by rw [List.length_take]; omega), List.length_take, Nat.min_eq_left (by omega), Nat.sub_self, List.set_cons_zero, List.take_succ_eq_append_getElem (by omega), get_lt (by omega), List.append_assoc]
  rfl
def sp_less : List Cv → List Obj' → Tree
  | [.one (.own 0), .one (.ro (.int .i64) b), .one (.v (.int .i64 p))], [.row t (.int .i64) v] => .need ((2 ≤ p ∧ p ≤ 13) ∧ v.length = b.length ∧ leadN b < b.length ∧ rowOk p v ∧ rowOk p b) (.ret (.tup []) [.row t (.int .i64) (lessL p v b)])
  | _, _ => .fail
set_option maxHeartbeats 4000000 in
set_option maxRecDepth 100000 in
theorem good_less : Good Tryz.prog 117 sp_less := by
  refine good_ofF Tryz.func117 rfl _ rfl _ rfl (tab [c_first, c_rest]) (fun X cs os0 K hok hos hK => ?_)
  unfold sp_less at hK
  split at hK
  case h_2 => exact hK.elim
  rename_i b p t v
  refine ⟨by simp, by simp, ?_⟩
  simp only [go_sem] at hK hok hos
  simp (maxSteps := 4000000) only [go_sem, Tryz.f117, ↓brB_t, ↓brB_f, Nat.reduceAdd, Int.reduceLE, Int.reduceLT, Int.reduceNeg, decide_true, decide_false, Bool.and_self, Nat.succ_eq_add_one, Int.toNat_natCast, Nat.beq_refl, Bool.and_true, Bool.true_and, Bool.false_or, Bool.or_true, List.all_cons, List.all_nil, Nat.reduceMul, Nat.add_zero, Nat.zero_add, List.length_nil, List.length_cons, dite_true, List.nil_append, Nat.reduceBEq, reduceDIte, reduceIte, reduceCtorEq, Bool.or_false, Bool.true_or, Bool.and_false, Bool.false_and, Bool.not_true, Bool.not_false, Option.isSome_some, Option.isSome_none, Option.getD_some, List.getElem?_cons_zero, List.getElem?_cons_succ, eq_self, and_self, List.take_succ_cons, List.take_zero, List.drop_succ_cons, List.drop_zero]
  obtain ⟨⟨hp, hl, hb, hv, hbo⟩, hK⟩ := hK
  have hb1 := len_i hok.2.1.1
  clear hok hos
  have hle : leadI b = (leadN b : Int) := if_pos hb
  rw [hle, Int.toNat_natCast]
  refine ⟨⟨by omega, by omega⟩, ?_⟩
  have hX := lessL_len p v b
  refine loop_okF (T := tab [c_first, c_rest]) [0, 1, 2, 6, 14, 15] [(0, 0)] (fun i : Nat => ⟨35, [(0, ow 0), (1, ri b), (2, vi p), (6, vi ((v : List Int).getD (leadN b) 0)), (14, vi v.length), (15, vi i)], [(0, .row t (.int .i64) ((lessL p v b).take i ++ (v : List Int).drop i))]⟩)
    (fun i => i ≤ v.length) (fun i => v.length - i) 0 rfl rfl (Nat.zero_le _) (fun i hi => ?_)
  simp only [go_sem, ↓brB_t, ↓brB_f, Nat.reduceAdd, Int.reduceLE, Int.reduceLT, Int.reduceNeg, decide_true, decide_false, Bool.and_self, Nat.succ_eq_add_one, Int.toNat_natCast, Nat.beq_refl, Bool.and_true, Bool.true_and, Bool.false_or, Bool.or_true, List.all_cons, List.all_nil, Nat.reduceMul, Nat.add_zero, Nat.zero_add, List.length_nil, List.length_cons, dite_true, List.nil_append, Nat.reduceBEq, reduceDIte, reduceIte, reduceCtorEq, Bool.or_false, Bool.true_or, Bool.and_false, Bool.false_and, Bool.not_true, Bool.not_false, Option.isSome_some, Option.isSome_none, Option.getD_some, List.getElem?_cons_zero, List.getElem?_cons_succ, eq_self, and_self, List.take_succ_cons, List.take_zero, List.drop_succ_cons, List.drop_zero]
  rw [mix_len hX hi]
  refine brB_intro (fun h1 => ?_) (fun h1 => ?_)
  · have h1 := of_decide_eq_true h1
    have hil : i < v.length := by omega
    have hw1 : w64 ((i : Int) + 1) = ((i + 1 : Nat) : Int) := w64_id (by omega) (by omega)
    have g1 := rowOk_get hv (by omega) i
    have g2 := rowOk_get hv (by omega) (leadN b)
    have g3 := rowOk_get hbo (by omega) i
    have hm := mul_r12 (x := (v : List Int).getD (leadN b) 0) (y := (b : List Int).getD i 0) (by omega) (by omega)
    have hs : modI p (w64 (((lessL p v b).take i ++ (v : List Int).drop i).getD i 0 - w64 ((v : List Int).getD (leadN b) 0 * (b : List Int).getD i 0))) = (lessL p v b).getD i 0 := by
      rw [mix_get hX hil, lessL_get hil, w64_id (x := _ * _) (by omega) (by omega), w64_id (by omega) (by omega), modI_e (by omega) (by omega)]
    rw [hs, mix_set hX hil, hw1]
    exact ⟨⟨by omega, by omega⟩, ⟨by omega, by omega⟩, by omega, ⟨by omega, by omega⟩, by kernel_rfl, i + 1, [(0, 0)], by omega, by omega, rfl, rfl⟩
  · have h1 := of_decide_eq_false h1
    have e : i = v.length := by omega
    rw [e, List.drop_length, List.append_nil, ← hX, List.take_length]
    exact retN [0] rfl hK
def c_less : Ctr Tryz.prog := ⟨117, ent Tryz.func117 rfl rfl, [true, false, false], sp_less, good_less, []⟩
@[go_sem] theorem c_less_f : c_less.f = 117 := rfl
@[go_sem] theorem c_less_ms : c_less.ms = [true, false, false] := rfl
@[go_sem] theorem c_less_sp : c_less.spec = sp_less := rfl
@[go_sem] theorem c_less_fz : c_less.fz = [] := rfl
attribute [go_sem] sp_less
end Go.Proofs.YthfmlelodmcgkaaGreat.V
end
section
namespace Go.Proofs.YthfmlelodmcgkaaGreat.V
open Go
def chkP (p : Nat) : Bool := (List.range p).all fun a => a == 0 || (decide (1 ≤ invF p a) && (decide (invF p a < p) && (decide ((a : Int) * invF p a % p = 1) && (List.range p).all fun k => k == 0 || (!decide ((k : Int) < invF p a) || !decide ((a : Int) * k % p = 1)))))
theorem chk_all : ∀ p ∈ ([2, 3, 5, 7, 11, 13] : List Nat), chkP p = true := by decide +kernel
theorem inv_facts {p a : Int} (hp : primeB p = true) (h0 : 0 < a) (h1 : a < p) : 1 ≤ invF p a ∧ invF p a < p ∧ a * invF p a % p = 1 ∧ ∀ k : Int, 1 ≤ k → k < invF p a → a * k % p ≠ 1 := by
  obtain ⟨P, rfl⟩ : ∃ P : Nat, p = P := ⟨p.toNat, by have := primeB_r hp; omega⟩
  obtain ⟨A, rfl⟩ : ∃ A : Nat, a = A := ⟨a.toNat, by omega⟩
  have hm : P ∈ ([2, 3, 5, 7, 11, 13] : List Nat) := by
    simp [primeB] at hp
    simp only [List.mem_cons, List.not_mem_nil, or_false]
    omega
  have hc := List.all_eq_true.1 (chk_all P hm) A (List.mem_range.2 (by omega))
  simp only [Bool.or_eq_true, Bool.and_eq_true, decide_eq_true_eq, beq_iff_eq] at hc
  rcases hc with hc | ⟨c1, c2, c3, c4⟩
  · omega
  · refine ⟨c1, c2, c3, fun k k1 k2 hk => ?_⟩
    obtain ⟨κ, rfl⟩ : ∃ κ : Nat, k = κ := ⟨k.toNat, by omega⟩
    have := List.all_eq_true.1 c4 κ (List.mem_range.2 (by omega))
    simp only [Bool.or_eq_true, Bool.not_eq_true', decide_eq_false_iff_not, beq_iff_eq] at this
    rcases this with h | h | h
    · omega
    · exact h k2
    · exact h hk
theorem inv_ok {p : Int} (hp : primeB p = true) : invOk (invF p) p := fun x h0 h1 => (inv_facts hp h0 h1).2.2.1
def putsI (p : Int) (l : List (List Int)) : List (List Int) := l.foldl (putI (invF p) p) []
def putsS (p : Int) (l : List (List Int)) : List (List Int) := l.foldl (putS (invF p) p) []
theorem puts_pair {p : Int} {m : Nat} (hp : primeB p = true) {l : List (List Int)} (h : ∀ v ∈ l, okRow p m v) : Red p m (putsS p l) ∧ upR (putsS p l) ∧ (putsI p l).Perm (putsS p l) :=
  puts_both (by have := primeB_r hp; omega) (inv_ok hp) (Red.nil p m) List.Pairwise.nil (List.Perm.refl _) h
theorem putsI_red {p : Int} {m : Nat} (hp : primeB p = true) {l : List (List Int)} (h : ∀ v ∈ l, okRow p m v) : Red p m (putsI p l) := by
  obtain ⟨h1, h2, h3⟩ := puts_pair hp h
  exact h1.perm h3.symm
theorem putsI_s {p : Int} {l : List (List Int)} {i : Nat} (h : i < l.length) : putsI p (l.take (i + 1)) = putI (invF p) p (putsI p (l.take i)) (l.getD i []) := by
  have e : l.getD i [] = l[i] := by rw [List.getD_eq_getElem?_getD, List.getElem?_eq_getElem h]; rfl
  rw [putsI, List.take_succ_eq_append_getElem h, List.foldl_append, ← e]; rfl
theorem putI_len (inv : Int → Int) (p : Int) (L : List (List Int)) (v : List Int) : (putI inv p L v).length ≤ L.length + 1 := by
  unfold putI
  split
  · simp
  · omega
theorem putsI_len (p : Int) (l : List (List Int)) : (putsI p l).length ≤ l.length := by
  have key : ∀ i, i ≤ l.length → (putsI p (l.take i)).length ≤ i := fun i => by
    induction i with
    | zero => intro _; exact Nat.le_refl 0
    | succ i ih =>
      intro h
      rw [putsI_s (by omega)]
      have := putI_len (invF p) p (putsI p (l.take i)) (l.getD i [])
      have := ih (by omega)
      omega
  have := key l.length (Nat.le_refl _)
  rwa [List.take_length] at this
theorem red_lead {p : Int} {m : Nat} {L : List (List Int)} (h : Red p m L) {b : List Int} (hb : b ∈ L) : leadN b < b.length ∧ b.length = m ∧ rowOk p b := by
  have := h.rows b hb
  exact ⟨by rw [this.ok.1]; exact this.lead, this.ok.1, this.ok.2⟩
theorem red_nodup {p : Int} {m : Nat} : ∀ {L : List (List Int)}, Red p m L → (L.map K.fstI).Nodup
  | [], _ => List.Pairwise.nil
  | b :: L, h => by
    obtain ⟨p1, p2⟩ := List.pairwise_cons.1 h.apart
    have h' : Red p m L := ⟨fun c hc => h.rows c (List.mem_cons_of_mem _ hc), p2⟩
    rw [List.map_cons]
    refine List.pairwise_cons.2 ⟨fun y hy e => ?_, red_nodup h'⟩
    obtain ⟨c, hc, rfl⟩ := List.mem_map.1 hy
    obtain ⟨b1, b2, _⟩ := red_lead h List.mem_cons_self
    obtain ⟨c1, c2, _⟩ := red_lead h (List.mem_cons_of_mem _ hc)
    rw [fst_lead, fst_lead, leadI, leadI, if_pos b1, if_pos c1] at e
    have e : leadN b = leadN c := by omega
    have h1 := (p1 c hc).1
    rw [← e, (h.rows b List.mem_cons_self).one] at h1
    exact absurd h1 (by decide)
def sp_reduced : List Cv → List Obj' → Tree
  | [.one (.own 0), .one (.v (.int .i64 p))], [.drow 26 (.sl 2 (.int .i64)) l] => .need (primeB p = true ∧ l.length ≤ 1000000 ∧ ∃ m : Nat, m ≤ 1000000 ∧ ∀ v ∈ (l : List (List Int)), okRow p m v)
      (.ret (ow 1) [.part 26 (.sl 2 (.int .i64)) l l.length, .drow 26 (.sl 2 (.int .i64)) (sortR (putsI p l))])
  | _, _ => .fail
theorem set_self {L : List (List Int)} {j : Nat} (h : j < L.length) : L.set j (L.getD j []) = L := by
  rw [List.getD_eq_getElem?_getD, List.getElem?_eq_getElem h]
  exact List.set_getElem_self h
theorem rest_s {p : Int} {L : List (List Int)} {j : Nat} (v : List Int) (h : j < L.length) : restL p (L.take (j + 1)) v = lessL p (restL p (L.take j) v) (L.getD j []) := by
  have e : L.getD j [] = L[j] := by rw [List.getD_eq_getElem?_getD, List.getElem?_eq_getElem h]; rfl
  rw [restL, List.take_succ_eq_append_getElem h, List.foldl_append, ← e]; rfl
theorem mixR_len {O M : List (List Int)} {i : Nat} (hl : M.length = O.length) (hi : i ≤ O.length) : (M.take i ++ O.drop i).length = O.length := by
  rw [List.length_append, List.length_take, List.length_drop]; omega
theorem getR_lt {l : List (List Int)} {i : Nat} (h : i < l.length) : l.getD i [] = l[i] := by rw [List.getD_eq_getElem?_getD, List.getElem?_eq_getElem h]; rfl
theorem mixR_get {O M : List (List Int)} {i : Nat} (hl : M.length = O.length) (hi : i < O.length) : (M.take i ++ O.drop i).getD i [] = O.getD i [] := by
  rw [List.getD_eq_getElem?_getD, List.getElem?_append_right (by rw [List.length_take]; omega), List.length_take, Nat.min_eq_left (by omega), Nat.sub_self, List.getElem?_drop, Nat.add_zero, ← List.getD_eq_getElem?_getD]
theorem mixR_set {O M : List (List Int)} {i : Nat} (hl : M.length = O.length) (hi : i < O.length) : (M.take i ++ O.drop i).set i (M.getD i []) = M.take (i + 1) ++ O.drop (i + 1) := by
  rw [List.drop_eq_getElem_cons hi, List.set_append_right _ _ (by rw [List.length_take]; omega), List.length_take, Nat.min_eq_left (by omega), Nat.sub_self, List.set_cons_zero, List.take_succ_eq_append_getElem (by omega), getR_lt (by omega), List.append_assoc]
  rfl
abbrev tR : TypeId := 26
abbrev tI6 : TypeId := 2
def stA (p : Int) (l : List (List Int)) (i n : Nat) (D : List (List Int)) (r : List Int) (j : Nat) : S := ⟨79, [(1, vi p), (5, ow 16), (7, ow 17), (16, ow 0), (17, vi l.length), (18, vi i), (22, ow 16), (23, vi n), (24, vi j)], [(0, .part tR kR l (i + 1)), (16, .drow tR kR D), (17, .row tI6 (.int .i64) r)]⟩
def stB (p : Int) (l : List (List Int)) (i n : Nat) (D : List (List Int)) (r : List Int) (y : Int) (j : Nat) : S := ⟨79, [(1, vi p), (5, ow 16), (7, ow 17), (11, vi y), (16, ow 0), (17, vi l.length), (18, vi i), (44, vi n), (45, vi j)], [(0, .part tR kR l (i + 1)), (16, .drow tR kR D), (17, .row tI6 (.int .i64) r)]⟩
def stC (p : Int) (l : List (List Int)) (i n : Nat) (D : List (List Int)) (r : List Int) (j : Nat) : S := ⟨79, [(1, vi p), (5, ow 16), (7, ow 17), (16, ow 0), (17, vi l.length), (18, vi i), (60, ow 16), (61, vi n), (62, vi j)], [(0, .part tR kR l (i + 1)), (16, .drow tR kR D), (17, .row tI6 (.int .i64) r)]⟩
set_option maxHeartbeats 4000000 in
set_option maxRecDepth 100000 in
theorem good_reduced : Good Tryz.prog 77 sp_reduced := by
  refine good_ofF Tryz.func77 rfl _ rfl _ rfl (tab [c_less, c_first, c_inv, c_sortR]) (fun X cs os0 K hok hos hK => ?_)
  unfold sp_reduced at hK
  split at hK
  case h_2 => exact hK.elim
  rename_i p l
  refine ⟨by simp, by simp, ?_⟩
  simp only [go_sem] at hK hok hos
  simp (maxSteps := 4000000) only [go_sem, Tryz.f77, ↓brB_t, ↓brB_f, Nat.reduceAdd, Int.reduceLE, Int.reduceLT, Int.reduceNeg, decide_true, decide_false, Bool.and_self, Nat.succ_eq_add_one, Int.toNat_natCast, Nat.beq_refl, Bool.and_true, Bool.true_and, Bool.false_or, Bool.or_true, List.all_cons, List.all_nil, Nat.reduceMul, Nat.add_zero, Nat.zero_add, List.length_nil, List.length_cons, dite_true, List.nil_append, Nat.reduceBEq, reduceDIte, reduceIte, reduceCtorEq, Bool.or_false, Bool.true_or, Bool.and_false, Bool.false_and, Bool.not_true, Bool.not_false, Option.isSome_some, Option.isSome_none, Option.getD_some, List.getElem?_cons_zero, List.getElem?_cons_succ, eq_self, and_self, List.take_succ_cons, List.take_zero, List.drop_succ_cons, List.drop_zero]
  obtain ⟨⟨hp, hll, m, hm, hv⟩, hK⟩ := hK
  clear hok hos
  have hp2 := primeB_r hp
  refine holds_sub (sub_part (i := 0) rfl) ?_
  refine loop_okF (T := tab [c_less, c_first, c_inv, c_sortR]) [1, 5, 16, 17, 18] [(0, 0), (16, 256)] (fun i : Nat => ⟨79, [(1, vi p), (5, ow 16), (16, ow 0), (17, vi l.length), (18, vi i)], [(0, .part 26 kR l i), (16, .drow 26 kR (putsI p (List.take i l)))]⟩)
    (fun i => i ≤ l.length) (fun i => l.length - i) 0 rfl rfl (Nat.zero_le _) (fun i hi => ?_)
  simp only [go_sem, ↓brB_t, ↓brB_f, Nat.reduceAdd, Int.reduceLE, Int.reduceLT, Int.reduceNeg, decide_true, decide_false, Bool.and_self, Nat.succ_eq_add_one, Int.toNat_natCast, Nat.beq_refl, Bool.and_true, Bool.true_and, Bool.false_or, Bool.or_true, List.all_cons, List.all_nil, Nat.reduceMul, Nat.add_zero, Nat.zero_add, List.length_nil, List.length_cons, dite_true, List.nil_append, Nat.reduceBEq, reduceDIte, reduceIte, reduceCtorEq, Bool.or_false, Bool.true_or, Bool.and_false, Bool.false_and, Bool.not_true, Bool.not_false, Option.isSome_some, Option.isSome_none, Option.getD_some, List.getElem?_cons_zero, List.getElem?_cons_succ, eq_self, and_self, List.take_succ_cons, List.take_zero, List.drop_succ_cons, List.drop_zero]
  have hR := putsI_red hp (l := (l : List (List Int)).take i) fun v h => hv v (List.mem_of_mem_take h)
  have hOl := putsI_len p ((l : List (List Int)).take i)
  rw [List.length_take] at hOl
  have hs0 := fun h : i < l.length => putsI_s (p := p) (l := l) h
  generalize hO : putsI p ((l : List (List Int)).take i) = O at *
  refine brB_intro (fun h1 => ?_) (fun h1 => ?_)
  · have h1 := of_decide_eq_true h1
    have hil : i < l.length := by omega
    have hs0 := hs0 hil
    have hvm : (l : List (List Int)).getD i [] ∈ l := by rw [List.getD_eq_getElem?_getD, List.getElem?_eq_getElem hil]; exact List.getElem_mem _
    have hvo := hv _ hvm
    generalize (l : List (List Int)).getD i [] = v at *
    refine ⟨⟨by omega, by omega⟩, trivial, ?_⟩
    refine loop_okF (T := tab [c_less, c_first, c_inv, c_sortR]) [1, 5, 7, 16, 17, 18, 22, 23, 24] [(0, 0), (16, 16), (17, 352)] (fun j : Nat => stA p l i O.length O (restL p (O.take j) v) j)
      (fun j => j ≤ O.length) (fun j => O.length - j) 0 rfl rfl (Nat.zero_le _) (fun j hj => ?_)
    simp only [stA, go_sem, ↓brB_t, ↓brB_f, Nat.reduceAdd, Int.reduceLE, Int.reduceLT, Int.reduceNeg, decide_true, decide_false, Bool.and_self, Nat.succ_eq_add_one, Int.toNat_natCast, Nat.beq_refl, Bool.and_true, Bool.true_and, Bool.false_or, Bool.or_true, List.all_cons, List.all_nil, Nat.reduceMul, Nat.add_zero, Nat.zero_add, List.length_nil, List.length_cons, dite_true, List.nil_append, Nat.reduceBEq, reduceDIte, reduceIte, reduceCtorEq, Bool.or_false, Bool.true_or, Bool.and_false, Bool.false_and, Bool.not_true, Bool.not_false, Option.isSome_some, Option.isSome_none, Option.getD_some, List.getElem?_cons_zero, List.getElem?_cons_succ, eq_self, and_self, List.take_succ_cons, List.take_zero, List.drop_succ_cons, List.drop_zero]
    refine brB_intro (fun h2 => ?_) (fun h2 => ?_)
    · have h2 := of_decide_eq_true h2
      have hjl : j < O.length := by omega
      have hw1 : w64 ((j : Int) + 1) = ((j + 1 : Nat) : Int) := w64_id (by omega) (by omega)
      have hsj := rest_s (p := p) v hjl
      have hmj : (O : List (List Int)).getD j [] ∈ O := by rw [List.getD_eq_getElem?_getD, List.getElem?_eq_getElem hjl]; exact List.getElem_mem _
      obtain ⟨b1, b2, b3⟩ := red_lead hR hmj
      have hrt : Red p m (O.take j) := ⟨fun b h => hR.rows b (List.mem_of_mem_take h), hR.apart.sublist (List.take_sublist _ _)⟩
      have hro := restL_ok (by omega) hrt hvo
      rw [hw1]
      refine ⟨⟨by omega, by omega⟩, ⟨hp2, by rw [hro.1]; exact b2.symm, b1, hro.2, b3⟩, j + 1, [(0, 0), (16, 16), (17, 17)], by omega, by omega, rfl, ?_⟩
      exact Eq.trans (b := stA p l i O.length (O.set j (O.getD j [])) (lessL p (restL p (O.take j) v) (O.getD j [])) (j + 1)) rfl (by rw [set_self hjl, ← hsj]; rfl)
    · have h2 := of_decide_eq_false h2
      have hjl : j = O.length := by omega
      subst hjl
      rw [List.take_length]
      have hro := restL_ok (by omega) hR hvo
      have hw1 : w64 ((i : Int) + 1) = ((i + 1 : Nat) : Int) := w64_id (by omega) (by omega)
      rw [hw1]
      have hown := fun h : leadN (restL p O v) < (restL p O v).length => put_own (inv := invF p) (L := O) (v := v) (by omega) (inv_ok hp) hR hvo (by rw [hvo.1, ← hro.1]; exact h)
      unfold putI at hs0
      rw [hvo.1, ← hro.1] at hs0
      generalize restL p O v = r at *
      refine brB_intro (fun h3 => ?_) (fun h3 => ?_)
      · have h3 := of_decide_eq_true h3
        have hnl : ¬ leadN r < r.length := fun h => by rw [leadI, if_pos h] at h3; omega
        rw [if_neg hnl] at hs0
        exact ⟨i + 1, [(0, 0), (16, 16)], by omega, by omega, rfl, by rw [hs0]; rfl⟩
      · have h3 := of_decide_eq_false h3
        have hnl : leadN r < r.length := Decidable.byContradiction fun h => by rw [leadI, if_neg h] at h3; omega
        have hli : leadI r = (leadN r : Int) := if_pos hnl
        rw [if_pos hnl] at hs0
        have hown := hown hnl
        rw [hli, Int.toNat_natCast]
        have hg := rowOk_get hro.2 (by omega) (leadN r)
        refine ⟨⟨by omega, by omega⟩, ⟨⟨by omega, by omega⟩, hp2⟩, ?_⟩
        have hnz := leadN_ne hnl
        have hinv := inv_facts hp (show 0 < r.getD (leadN r) 0 by omega) hg.2
        generalize hy : invF p (r.getD (leadN r) 0) = y at *
        have hX : (scaleL p y r).length = r.length := List.length_map ..
        refine loop_okF (T := tab [c_less, c_first, c_inv, c_sortR]) [1, 5, 7, 11, 16, 17, 18, 44, 45] [(0, 0), (16, 16), (17, 17)] (fun j : Nat => stB p l i r.length O ((scaleL p y r).take j ++ r.drop j) y j)
          (fun j => j ≤ r.length) (fun j => r.length - j) 0 rfl rfl (Nat.zero_le _) (fun j hj => ?_)
        simp only [stB, go_sem, ↓brB_t, ↓brB_f, Nat.reduceAdd, Int.reduceLE, Int.reduceLT, Int.reduceNeg, decide_true, decide_false, Bool.and_self, Nat.succ_eq_add_one, Int.toNat_natCast, Nat.beq_refl, Bool.and_true, Bool.true_and, Bool.false_or, Bool.or_true, List.all_cons, List.all_nil, Nat.reduceMul, Nat.add_zero, Nat.zero_add, List.length_nil, List.length_cons, dite_true, List.nil_append, Nat.reduceBEq, reduceDIte, reduceIte, reduceCtorEq, Bool.or_false, Bool.true_or, Bool.and_false, Bool.false_and, Bool.not_true, Bool.not_false, Option.isSome_some, Option.isSome_none, Option.getD_some, List.getElem?_cons_zero, List.getElem?_cons_succ, eq_self, and_self, List.take_succ_cons, List.take_zero, List.drop_succ_cons, List.drop_zero]
        rw [mix_len hX hj]
        refine brB_intro (fun h4 => ?_) (fun h4 => ?_)
        · have h4 := of_decide_eq_true h4
          have hjl : j < r.length := by omega
          have hw1 : w64 ((j : Int) + 1) = ((j + 1 : Nat) : Int) := w64_id (by have := hro.1; omega) (by have := hro.1; omega)
          have gj := rowOk_get hro.2 (by omega) j
          have hm2 := mul_r12 (x := r.getD j 0) (y := y) (by omega) (by omega)
          have hs : (w64 (((scaleL p y r).take j ++ r.drop j).getD j 0 * y)).tmod p = (scaleL p y r).getD j 0 := by
            rw [mix_get hX hjl, w64_id (by omega) (by omega), Int.tmod_eq_emod_of_nonneg hm2.1, scaleL_get]
          rw [hs, mix_set hX hjl, hw1]
          exact ⟨⟨by omega, by omega⟩, by omega, ⟨by omega, by omega⟩, j + 1, [(0, 0), (16, 16), (17, 17)], by omega, by omega, rfl, rfl⟩
        · have h4 := of_decide_eq_false h4
          have hjl : j = r.length := by omega
          have e : (scaleL p y r).take j ++ r.drop j = scaleL p y r := by rw [hjl, List.drop_length, List.append_nil, ← hX, List.take_length]
          rw [e]
          clear hX e h4 hjl hj hg hnz hinv hli
          generalize hw : scaleL p y r = w at *
          obtain ⟨o1, o2, o3⟩ := hown
          have wl : w.length = m := o1.ok.1
          have hM : (O.map fun o => lessL p o w).length = O.length := List.length_map ..
          refine loop_okF (T := tab [c_less, c_first, c_inv, c_sortR]) [1, 5, 7, 16, 17, 18, 60, 61, 62] [(0, 0), (16, 16), (17, 17)] (fun j : Nat => stC p l i O.length ((O.map fun o => lessL p o w).take j ++ O.drop j) w j)
            (fun j => j ≤ O.length) (fun j => O.length - j) 0 rfl rfl (Nat.zero_le _) (fun j hj => ?_)
          simp only [stC, go_sem, ↓brB_t, ↓brB_f, Nat.reduceAdd, Int.reduceLE, Int.reduceLT, Int.reduceNeg, decide_true, decide_false, Bool.and_self, Nat.succ_eq_add_one, Int.toNat_natCast, Nat.beq_refl, Bool.and_true, Bool.true_and, Bool.false_or, Bool.or_true, List.all_cons, List.all_nil, Nat.reduceMul, Nat.add_zero, Nat.zero_add, List.length_nil, List.length_cons, dite_true, List.nil_append, Nat.reduceBEq, reduceDIte, reduceIte, reduceCtorEq, Bool.or_false, Bool.true_or, Bool.and_false, Bool.false_and, Bool.not_true, Bool.not_false, Option.isSome_some, Option.isSome_none, Option.getD_some, List.getElem?_cons_zero, List.getElem?_cons_succ, eq_self, and_self, List.take_succ_cons, List.take_zero, List.drop_succ_cons, List.drop_zero]
          rw [mixR_len hM hj]
          refine brB_intro (fun h4 => ?_) (fun h4 => ?_)
          · have h4 := of_decide_eq_true h4
            have hjl : j < O.length := by omega
            have hw1 : w64 ((j : Int) + 1) = ((j + 1 : Nat) : Int) := w64_id (by omega) (by omega)
            obtain ⟨b1, b2, b3⟩ := red_lead hR (show O.getD j [] ∈ O by rw [getR_lt hjl]; exact List.getElem_mem _)
            have hset := mixR_set hM hjl
            have hgm : (O.map fun o => lessL p o w).getD j [] = lessL p (O.getD j []) w := by rw [getR_lt (by omega), getR_lt hjl, List.getElem_map]
            rw [hgm] at hset
            rw [hw1, mixR_get hM hjl]
            refine ⟨⟨by omega, by omega⟩, ⟨hp2, by rw [wl]; exact b2, by rw [wl]; exact o1.lead, b3, o1.ok.2⟩, j + 1, [(0, 0), (16, 16), (17, 17)], by omega, by omega, rfl, ?_⟩
            exact Eq.trans (b := stC p l i O.length (((O.map fun o => lessL p o w).take j ++ O.drop j).set j (lessL p (O.getD j []) w)) w (j + 1)) rfl (by rw [hset]; rfl)
          · have h4 := of_decide_eq_false h4
            have hjl : j = O.length := by omega
            have e : (O.map fun o => lessL p o w).take j ++ O.drop j = O.map fun o => lessL p o w := by rw [hjl, List.drop_length, List.append_nil, ← hM, List.take_length]
            rw [e]
            exact ⟨by omega, i + 1, [(0, 0), (16, 1200)], by omega, by omega, rfl, by rw [hs0, hw1]; rfl⟩
  · have h1 := of_decide_eq_false h1
    have e : i = l.length := by omega
    subst e
    rw [List.take_length] at hO
    rw [hO] at hK
    exact ⟨⟨trivial, by omega, fun x hx => by have := (red_lead hR hx).2.1; show x.length ≤ _; omega, red_nodup hR⟩, retN [0, 16] rfl hK⟩
def c_reduced : Ctr Tryz.prog := ⟨77, ent Tryz.func77 rfl rfl, [true], sp_reduced, good_reduced, []⟩
@[go_sem] theorem c_reduced_f : c_reduced.f = 77 := rfl
@[go_sem] theorem c_reduced_ms : c_reduced.ms = [true] := rfl
@[go_sem] theorem c_reduced_sp : c_reduced.spec = sp_reduced := rfl
@[go_sem] theorem c_reduced_fz : c_reduced.fz = [] := rfl
attribute [go_sem] sp_reduced
end Go.Proofs.YthfmlelodmcgkaaGreat.V
end
section
namespace Go.Proofs.YthfmlelodmcgkaaGreat.V
open Go
open Go.RowKit Go.Lib Go.Proofs.YthfmlelodmcgkaaGreatW.PrintWords Go.Proofs.YthfmlelodmcgkaaGreatW.PrintLast Go.Proofs.YthfmlelodmcgkaaGreatW.PrintMore
set_option maxHeartbeats 1000000 in
set_option maxRecDepth 100000 in
theorem grow_nil (n : Nat) (w : World) (h0 : 0 < n) (hn : n ≤ 1099511627776) :
    Calls Tryz.prog 183 #[.slice none 0 0, .int .i64 n] w fun e w' => ∃ (cap : Nat) (cur : Array Value), e = .returned (.slice (some ⟨w.heap.size, 0, none⟩) 0 cap) ∧ w' = w.drew.alloc (.cells cur 2) ∧ cap ≤ maxLen ∧ cur.size = cap := by
  obtain ⟨i0, hi0, hz0, hs0, hb0⟩ := info_parts Go.Proofs.YthfmlelodmcgkaaGreat.K.info2
  have h1 : ¬ ((n : Int) < 0) := by omega
  have h2 : wrap64 ((n : Int) - 0) = (n : Int) := by unfold wrap64; omega
  have h4 : (n : Int) > 0 := by omega
  have hold : (Builtin.firstCells i0.size 0 (.slice none 0 0)).run Tryz.prog w.drew = .ok #[] w.drew := run_firstCells_none w.drew i0.size 0 0 0
  have hrz : ∀ ty, (Builtin.append_ #[26, 3] ty #[.slice none 0 0, .int .i64 (n : Int)]).run Tryz.prog w =
      .ok (.slice (some ⟨w.heap.size, 0, none⟩) n (grownCap w n 0 2)) (w.drew.alloc (.cells (#[] ++ Builtin.zeroCells (Value.int .i64 0).cells n ++ Builtin.zeroCells (Value.int .i64 0).cells (grownCap w n 0 2 - n)) 2)) := fun ty => by
    have h := Lib.run_append_grow_zeros w 26 3 ty 2 i0 _ .i64 .i64 Tryz.underlying26 Tryz.underlying3 hi0 hz0 none 0 0 [] hold n h0 (by omega) (by omega) (by omega) (by rw [hb0]; omega) (by rw [hb0]; exact growslice_fits (by omega) (by omega))
    simpa only [Nat.zero_add] using h
  have hGn : n ≤ grownCap w n 0 2 := grownCap_ge w _ _ _
  have hGm := grownCap_le_maxLen w n 0 2 (by unfold maxLen; omega)
  obtain ⟨G, hG⟩ : ∃ G, G = grownCap w n 0 2 := ⟨_, rfl⟩
  rw [← hG] at hrz hGn hGm
  have hG63 : G ≤ 9223372036854775807 := by unfold maxLen at hGm; omega
  have hsz : (#[] ++ Builtin.zeroCells (Value.int .i64 0).cells n ++ Builtin.zeroCells (Value.int .i64 0).cells (G - n)).size = G := by
    simp only [Array.size_append, size_zeroCells, Value.cells]
    simp
    omega
  have HS := Aside0.mk hsz
  have HM := Aside0.mk hGm
  clear hold hG hsz hGm
  go_enter Tryz.func183, Tryz.ntmps183
  go_wp2_with (at_builtin; refine Lib.wpList_append_run _ rfl _ _ _ _ rfl _ _ rfl rfl _ _ (hrz _) ?_)
  all_goals go_ret
  exact ⟨_, rfl, _, rfl, HM.out, by have := HS.out; rwa [Array.empty_append] at this⟩
theorem grow_zero (w : World) : Calls Tryz.prog 183 #[.slice none 0 0, .int .i64 0] w fun e w' => e = .returned (.slice none 0 0) ∧ w' = w := by
  go_enter Tryz.func183, Tryz.ntmps183
  go_wp2
  go_ret
  exact ⟨rfl, rfl⟩
def sp_grow : List Cv → List Obj' → Tree
  | [.one (.v (.slice none 0 0)), .one (.v (.int .i64 n))], [] => .need (0 ≤ n ∧ n ≤ 1099511627776) (.ret (ow 0) [rwi []])
  | _, _ => .fail
theorem good_grow : Good Tryz.prog 183 sp_grow := by
  refine good0 (fun cs o os => by unfold sp_grow; split <;> first | rfl | (rename_i h; cases h)) (fun w F cs vs Kc hF ha hok hK => ?_)
  unfold sp_grow at hK
  split at hK
  case h_2 => exact hK.elim
  rename_i n _
  obtain ⟨u1, u2, rfl, hu1, hu2⟩ : ∃ u1 u2, vs = [u1, u2] ∧ CV Tryz.prog (E00 w F) (.one (.v (.slice none 0 0))) u1 ∧ CV Tryz.prog (E00 w F) (.one (.v (.int .i64 n))) u2 := by
    rcases vs with _ | ⟨u1, _ | ⟨u2, _ | ⟨u3, _⟩⟩⟩
    · exact ha.elim
    · exact ha.2.elim
    · exact ⟨u1, u2, rfl, ha.1, ha.2.1⟩
    · exact ha.2.2.elim
  obtain ⟨⟨rfl, _⟩, _⟩ := hu1
  obtain ⟨⟨rfl, _⟩, _⟩ := hu2
  obtain ⟨⟨h0, h1⟩, hK⟩ := hK
  have fin : ∀ (v : Value) (w' : World), w.grownBy w' none → w'.ownsRow 0 2 1 v 0 [] → (∀ b, blkOf v = some b → w.heap.size ≤ b) → v.oneCell' = true → ∃ r u os E, Ending.returned v = .returned u ∧ Kc r os ∧ E.w = w' ∧ Inv Tryz.prog (X00 w F) (numb 0 os) E ∧ RV Tryz.prog E r u := by
    intro v w' hg ho hb h1
    have hI := ((Inv.start (P := Tryz.prog) w F hF).world (w' := w') (row := none) hg (fun b h => by cases h)).1
    obtain ⟨E', k1, k2, k3, k4, k5, _⟩ := hI.lay 0 rfl (fun h => h) v (fun b => blkOf v = some b) (fun _ => undef) (.row 2 (.int .i64) []) (fun b hb' => ⟨fun h => by have := hF b h; have := hb b hb'; omega, .inl (hb b hb'), fun j o hj => by cases hj⟩) (fun E' hle hw => ⟨[], by rw [hw]; exact ho, rfl, Nat.zero_le _, fun _ => Iff.rfl⟩)
    exact ⟨_, _, _, E', rfl, hK, k1, k3, ⟨⟨k4, k5.symm⟩, h1⟩⟩
  obtain ⟨m, rfl⟩ : ∃ m : Nat, n = m := ⟨n.toNat, by omega⟩
  rcases Nat.eq_zero_or_pos m with hm | hm
  · subst hm
    refine (grow_zero w).mono ?_
    rintro e w' ⟨rfl, rfl⟩
    exact fin _ _ ⟨rfl, rfl, rfl, Nat.le_refl _, fun _ _ _ => rfl⟩ (World.ownsRow_nil _ _ _ _) (fun b h => by cases h) rfl
  · refine (grow_nil m w hm (by omega)).mono ?_
    rintro e w' ⟨cap, cur, rfl, rfl, hc, hs⟩
    refine fin _ _ ⟨rfl, rfl, rfl, by simp, fun k hk _ => heap_alloc_old w.drew _ hk⟩ ⟨rfl, .inr ⟨w.heap.size, cap, cur, rfl, Nat.zero_le _, heap_alloc_new w.drew _, Nat.zero_le _, hc, by rw [hs, Nat.mul_one], rfl⟩⟩ (fun b h => ?_) rfl
    have : w.heap.size = b := by simpa [blkOf] using h
    omega
def c_grow : Ctr Tryz.prog := ⟨183, ent Tryz.func183 rfl rfl, [], sp_grow, good_grow, []⟩
@[go_sem] theorem c_grow_f : c_grow.f = 183 := rfl
@[go_sem] theorem c_grow_ms : c_grow.ms = [] := rfl
@[go_sem] theorem c_grow_sp : c_grow.spec = sp_grow := rfl
@[go_sem] theorem c_grow_fz : c_grow.fz = [] := rfl
attribute [go_sem] sp_grow
end Go.Proofs.YthfmlelodmcgkaaGreat.V
end
section
namespace Go.Proofs.YthfmlelodmcgkaaGreat.V
open Go
abbrev kTerm : Kn := .pr (.sl 2 (.int .i64)) (.int .i64)
abbrev TermL := List (List Int × Int)
abbrev tI : Nat := 87
theorem snb {b : Bool} (h : (!b) = true) : b = false := by simpa using h
theorem snb' {b : Bool} (h : (!b) = false) : b = true := by simpa using h
theorem getD_memT {l : TermL} {i : Nat} (h : i < l.length) : l.getD i ([], 0) ∈ l := by rw [List.getD_eq_getElem?_getD, List.getElem?_eq_getElem h]; exact List.getElem_mem _
end Go.Proofs.YthfmlelodmcgkaaGreat.V
end
section
namespace Go.Proofs.YthfmlelodmcgkaaGreat.V
open Go
set_option maxHeartbeats 4000000 in
set_option maxRecDepth 100000 in
theorem good_leadS : Good Tryz.prog 70 sp_lead := by
  refine good_ofF Tryz.func70 rfl _ rfl _ rfl (tab []) (fun X cs os0 K hok hos hK => ?_)
  clear hos; unfold sp_lead at hK
  split at hK
  case h_2 => exact hK.elim
  rename_i l
  refine ⟨by simp, by simp, ?_⟩
  simp only [go_sem] at hK hok
  simp (maxSteps := 4000000) only [go_sem, Tryz.f70, ↓brB_t, ↓brB_f, Nat.reduceAdd, Int.reduceLE, Int.reduceLT, Int.reduceNeg, decide_true, decide_false, Bool.and_self, Nat.succ_eq_add_one, Int.toNat_natCast, Nat.beq_refl, Bool.and_true, Bool.true_and, Bool.false_or, Bool.or_true, List.all_cons, List.all_nil, Nat.reduceMul, Nat.add_zero, Nat.zero_add, List.length_nil, List.length_cons, dite_true, List.nil_append, Nat.reduceBEq, reduceDIte, reduceIte, reduceCtorEq, Bool.or_false, Bool.true_or, Bool.and_false, Bool.false_and, Bool.not_true, Bool.not_false, Option.isSome_some, Option.isSome_none, Option.getD_some, List.getElem?_cons_zero, List.getElem?_cons_succ, eq_self, and_self, List.take_succ_cons, List.take_zero, List.drop_succ_cons, List.drop_zero]
  have hl := len_i hok.1.1
  clear hok
  refine loop_okF (T := tab []) [0, 3] [] (fun i : Nat => ⟨16, [(0, ri l), (3, vi i)], []⟩)
    (fun i => i ≤ l.length ∧ ∀ j, j < i → (l : List Int).getD j 0 = 0) (fun i => l.length - i) 0 rfl rfl ⟨Nat.zero_le _, fun j h => by omega⟩ (fun i hi => ?_)
  obtain ⟨hi, hz⟩ := hi
  simp only [go_sem, ↓brB_t, ↓brB_f, Nat.reduceAdd, Int.reduceLE, Int.reduceLT, Int.reduceNeg, decide_true, decide_false, Bool.and_self, Nat.succ_eq_add_one, Int.toNat_natCast, Nat.beq_refl, Bool.and_true, Bool.true_and, Bool.false_or, Bool.or_true, List.all_cons, List.all_nil, Nat.reduceMul, Nat.add_zero, Nat.zero_add, List.length_nil, List.length_cons, dite_true, List.nil_append, Nat.reduceBEq, reduceDIte, reduceIte, reduceCtorEq, Bool.or_false, Bool.true_or, Bool.and_false, Bool.false_and, Bool.not_true, Bool.not_false, Option.isSome_some, Option.isSome_none, Option.getD_some, List.getElem?_cons_zero, List.getElem?_cons_succ, eq_self, and_self, List.take_succ_cons, List.take_zero, List.drop_succ_cons, List.drop_zero]
  refine brB_intro (fun h1 => ?_) (fun h1 => ret0 ?_)
  · have h1 := of_decide_eq_true h1
    have hw1 : w64 ((i : Int) + 1) = ((i + 1 : Nat) : Int) := w64_s (n := l.length) (by omega) hl
    refine ⟨⟨by omega, by omega⟩, brB_intro (fun h2 => ret0 ?_) (fun h2 => ⟨i + 1, [], ⟨by omega, fun j hj => ?_⟩, by omega, rfl, by rw [hw1]; rfl⟩)⟩
    · have h2 := of_decide_eq_false (snb h2)
      have e : leadN (l : List Int) = i := leadN_of hz h2
      have e2 : leadI (l : List Int) = i := by rw [leadI, e, if_pos (by omega)]
      rw [e2] at hK; exact hK
    · have h2 := of_decide_eq_true (snb' h2)
      by_cases e : j = i
      · rw [e]; exact h2
      · exact hz j (by omega)
  · have h1 := of_decide_eq_false h1
    have e : leadI (l : List Int) = -1 := by
      rw [leadI, if_neg]
      intro h
      exact leadN_ne h (hz _ (by omega))
    rw [e] at hK; exact hK
def c_leadS : Ctr Tryz.prog := ⟨70, ent Tryz.func70 rfl rfl, [], sp_lead, good_leadS, []⟩
@[go_sem] theorem c_leadS_f : c_leadS.f = 70 := rfl
@[go_sem] theorem c_leadS_ms : c_leadS.ms = [] := rfl
@[go_sem] theorem c_leadS_sp : c_leadS.spec = sp_lead := rfl
@[go_sem] theorem c_leadS_fz : c_leadS.fz = [] := rfl
attribute [go_sem] sp_lead
def sp_invS : List Cv → List Obj' → Tree
  | [.one (.v (.int .i64 p)), .one (.v (.int .i64 x))], [] => .need (primeB p = true ∧ 0 < x ∧ x < p) (.ret (vi (invF p x)) [])
  | _, _ => .fail
set_option maxHeartbeats 4000000 in
set_option maxRecDepth 100000 in
theorem good_invS : Good Tryz.prog 110 sp_invS := by
  refine good_ofF Tryz.func110 rfl _ rfl _ rfl (tab []) (fun X cs os0 K hok hos hK => ?_)
  clear hos; unfold sp_invS at hK
  split at hK
  case h_2 => exact hK.elim
  rename_i p x
  refine ⟨by simp, by simp, ?_⟩
  simp only [go_sem] at hK hok
  simp (maxSteps := 4000000) only [go_sem, Tryz.f110, ↓brB_t, ↓brB_f, Nat.reduceAdd, Int.reduceLE, Int.reduceLT, Int.reduceNeg, decide_true, decide_false, Bool.and_self, Nat.succ_eq_add_one, Int.toNat_natCast, Nat.beq_refl, Bool.and_true, Bool.true_and, Bool.false_or, Bool.or_true, List.all_cons, List.all_nil, Nat.reduceMul, Nat.add_zero, Nat.zero_add, List.length_nil, List.length_cons, dite_true, List.nil_append, Nat.reduceBEq, reduceDIte, reduceIte, reduceCtorEq, Bool.or_false, Bool.true_or, Bool.and_false, Bool.false_and, Bool.not_true, Bool.not_false, Option.isSome_some, Option.isSome_none, Option.getD_some, List.getElem?_cons_zero, List.getElem?_cons_succ, eq_self, and_self, List.take_succ_cons, List.take_zero, List.drop_succ_cons, List.drop_zero]
  obtain ⟨⟨hp, h0, h1⟩, hK⟩ := hK
  clear hok
  have hp2 := primeB_r hp
  obtain ⟨f1, f2, f3, f4⟩ := inv_facts hp h0 h1
  refine loop_okF (T := tab []) [0, 1, 5] [] (fun i : Nat => ⟨18, [(0, vi p), (1, vi x), (5, vi ((i : Int) + 1))], []⟩)
    (fun i => (i : Int) + 1 ≤ invF p x) (fun i => 20 - i) 0 rfl rfl (by omega) (fun i hi => ?_)
  simp only [go_sem, ↓brB_t, ↓brB_f, Nat.reduceAdd, Int.reduceLE, Int.reduceLT, Int.reduceNeg, decide_true, decide_false, Bool.and_self, Nat.succ_eq_add_one, Int.toNat_natCast, Nat.beq_refl, Bool.and_true, Bool.true_and, Bool.false_or, Bool.or_true, List.all_cons, List.all_nil, Nat.reduceMul, Nat.add_zero, Nat.zero_add, List.length_nil, List.length_cons, dite_true, List.nil_append, Nat.reduceBEq, reduceDIte, reduceIte, reduceCtorEq, Bool.or_false, Bool.true_or, Bool.and_false, Bool.false_and, Bool.not_true, Bool.not_false, Option.isSome_some, Option.isSome_none, Option.getD_some, List.getElem?_cons_zero, List.getElem?_cons_succ, eq_self, and_self, List.take_succ_cons, List.take_zero, List.drop_succ_cons, List.drop_zero]
  refine brB_intro (fun h2 => ?_) (fun h2 => ?_)
  · have h2 := of_decide_eq_true h2
    have hm := mul_r12 (x := x) (y := (i : Int) + 1) (by omega) (by omega)
    have hs : (w64 (x * ((i : Int) + 1))).tmod p = x * ((i : Int) + 1) % p := by rw [w64_id (by omega) (by omega), Int.tmod_eq_emod_of_nonneg hm.1]
    rw [hs]
    refine ⟨by omega, brB_intro (fun h3 => ret0 ?_) (fun h3 => ?_)⟩
    · have h3 := of_decide_eq_true h3
      have e : invF p x = (i : Int) + 1 := by
        by_cases e : (i : Int) + 1 < invF p x
        · exact absurd h3 (f4 _ (by omega) e)
        · omega
      rw [e] at hK; exact hK
    · have h3 := of_decide_eq_false h3
      have hne : (i : Int) + 1 ≠ invF p x := fun e => h3 (by rw [e]; exact f3)
      have hw1 : w64 ((i : Int) + 1 + 1) = ((i + 1 : Nat) : Int) + 1 := by rw [w64_id (by omega) (by omega)]; omega
      exact ⟨i + 1, [], by omega, by omega, rfl, by rw [hw1]; rfl⟩
  · have h2 := of_decide_eq_false h2
    omega
def c_invS : Ctr Tryz.prog := ⟨110, ent Tryz.func110 rfl rfl, [], sp_invS, good_invS, []⟩
@[go_sem] theorem c_invS_f : c_invS.f = 110 := rfl
@[go_sem] theorem c_invS_ms : c_invS.ms = [] := rfl
@[go_sem] theorem c_invS_sp : c_invS.spec = sp_invS := rfl
@[go_sem] theorem c_invS_fz : c_invS.fz = [] := rfl
attribute [go_sem] sp_invS
def lessK (p : Int) (v b : List Int) (k : Int) : List Int := v.mapIdx fun i x => (x - k * b.getD i 0) % p
theorem lessK_l (p : Int) (v b : List Int) : lessK p v b (v.getD (leadN b) 0) = lessL p v b := rfl
theorem lessK_len (p : Int) (v b : List Int) (k : Int) : (lessK p v b k).length = v.length := List.length_mapIdx
theorem lessK_get {p : Int} {v b : List Int} {k : Int} {i : Nat} (h : i < v.length) : (lessK p v b k).getD i 0 = (v.getD i 0 - k * b.getD i 0) % p := by
  rw [get_lt (by rw [lessK_len]; exact h), get_lt (l := v) h]
  simp only [lessK, List.getElem_mapIdx]
theorem takeI_s {l : List Int} {i : Nat} (h : i < l.length) : l.take (i + 1) = l.take i ++ [l.getD i 0] := by
  rw [List.take_succ_eq_append_getElem h, get_lt h]
def sp_l04Less : List Cv → List Obj' → Tree
  | [.one (.v (.int .i64 p)), .one (.ro (.int .i64) v), .one (.ro (.int .i64) b), .one (.v (.int .i64 k))], [] => .need ((2 ≤ p ∧ p ≤ 13) ∧ v.length = b.length ∧ v.length ≤ 1000000 ∧ rowOk p v ∧ rowOk p b ∧ 0 ≤ k ∧ k < p) (.ret (ri (lessK p v b k)) [])
  | _, _ => .fail
set_option maxHeartbeats 4000000 in
set_option maxRecDepth 100000 in
theorem good_l04Less : Good Tryz.prog 111 sp_l04Less := by
  refine good_ofF Tryz.func111 rfl _ rfl _ rfl (tab [c_l03Mod]) (fun X cs os0 K hok hos hK => ?_)
  clear hos; unfold sp_l04Less at hK
  split at hK
  case h_2 => exact hK.elim
  rename_i p v b k
  refine ⟨by simp, by simp, ?_⟩
  simp only [go_sem] at hK hok
  simp (maxSteps := 4000000) only [go_sem, Tryz.f111, ↓brB_t, ↓brB_f, Nat.reduceAdd, Int.reduceLE, Int.reduceLT, Int.reduceNeg, decide_true, decide_false, Bool.and_self, Nat.succ_eq_add_one, Int.toNat_natCast, Nat.beq_refl, Bool.and_true, Bool.true_and, Bool.false_or, Bool.or_true, List.all_cons, List.all_nil, Nat.reduceMul, Nat.add_zero, Nat.zero_add, List.length_nil, List.length_cons, dite_true, List.nil_append, Nat.reduceBEq, reduceDIte, reduceIte, reduceCtorEq, Bool.or_false, Bool.true_or, Bool.and_false, Bool.false_and, Bool.not_true, Bool.not_false, Option.isSome_some, Option.isSome_none, Option.getD_some, List.getElem?_cons_zero, List.getElem?_cons_succ, eq_self, and_self, List.take_succ_cons, List.take_zero, List.drop_succ_cons, List.drop_zero]
  obtain ⟨⟨hp, hl, hm, hv, hb, hk0, hk1⟩, hK⟩ := hK
  clear hok
  have hX := lessK_len p v b k
  refine loop_okF (T := tab [c_l03Mod]) [0, 1, 2, 3, 9, 10] [(16, 192)] (fun i : Nat => ⟨35, [(0, vi p), (1, ri v), (2, ri b), (3, vi k), (9, ow 16), (10, vi i)], [(16, .row 2 (.int .i64) ((lessK p v b k).take i))]⟩)
    (fun i => i ≤ v.length) (fun i => v.length - i) 0 rfl rfl (Nat.zero_le _) (fun i hi => ?_)
  simp only [go_sem, ↓brB_t, ↓brB_f, Nat.reduceAdd, Int.reduceLE, Int.reduceLT, Int.reduceNeg, decide_true, decide_false, Bool.and_self, Nat.succ_eq_add_one, Int.toNat_natCast, Nat.beq_refl, Bool.and_true, Bool.true_and, Bool.false_or, Bool.or_true, List.all_cons, List.all_nil, Nat.reduceMul, Nat.add_zero, Nat.zero_add, List.length_nil, List.length_cons, dite_true, List.nil_append, Nat.reduceBEq, reduceDIte, reduceIte, reduceCtorEq, Bool.or_false, Bool.true_or, Bool.and_false, Bool.false_and, Bool.not_true, Bool.not_false, Option.isSome_some, Option.isSome_none, Option.getD_some, List.getElem?_cons_zero, List.getElem?_cons_succ, eq_self, and_self, List.take_succ_cons, List.take_zero, List.drop_succ_cons, List.drop_zero]
  refine brB_intro (fun h1 => ?_) (fun h1 => ?_)
  · have h1 := of_decide_eq_true h1
    have hil : i < v.length := by omega
    have hw1 : w64 ((i : Int) + 1) = ((i + 1 : Nat) : Int) := w64_id (by omega) (by omega)
    have g1 := rowOk_get hv (by omega) i
    have g3 := rowOk_get hb (by omega) i
    have hm2 := mul_r12 (x := k) (y := (b : List Int).getD i 0) (by omega) (by omega)
    have hs : modI p (w64 ((v : List Int).getD i 0 - w64 (k * (b : List Int).getD i 0))) = (lessK p v b k).getD i 0 := by
      rw [lessK_get hil, w64_id (x := _ * _) (by omega) (by omega), w64_id (by omega) (by omega), modI_e (by omega) (by omega)]
    have hts := takeI_s (l := lessK p v b k) (i := i) (by omega)
    rw [hs, hw1]
    refine ⟨⟨by omega, by omega⟩, ⟨by omega, by omega⟩, by omega, by rw [List.length_take]; omega, by kernel_rfl, i + 1, [(16, 544)], by omega, by omega, rfl, ?_⟩
    rw [hts]; rfl
  · have h1 := of_decide_eq_false h1
    have e : i = v.length := by omega
    rw [e, ← hX, List.take_length]
    exact retN [] rfl hK
def c_l04Less : Ctr Tryz.prog := ⟨111, ent Tryz.func111 rfl rfl, [], sp_l04Less, good_l04Less, []⟩
@[go_sem] theorem c_l04Less_f : c_l04Less.f = 111 := rfl
@[go_sem] theorem c_l04Less_ms : c_l04Less.ms = [] := rfl
@[go_sem] theorem c_l04Less_sp : c_l04Less.spec = sp_l04Less := rfl
@[go_sem] theorem c_l04Less_fz : c_l04Less.fz = [] := rfl
attribute [go_sem] sp_l04Less
def sp_l04Rest : List Cv → List Obj' → Tree
  | [.one (.v (.int .i64 p)), .one (.ro (.sl 2 (.int .i64)) L), .one (.ro (.int .i64) v)], [] => .need ((2 ≤ p ∧ p ≤ 13) ∧ (L : List (List Int)).length ≤ 1000000 ∧ ∃ m : Nat, m ≤ 1000000 ∧ Red p m L ∧ okRow p m v) (.ret (ri (restL p L v)) [])
  | _, _ => .fail
set_option maxHeartbeats 4000000 in
set_option maxRecDepth 100000 in
theorem good_l04Rest : Good Tryz.prog 109 sp_l04Rest := by
  refine good_ofF Tryz.func109 rfl _ rfl _ rfl (tab [c_leadS, c_l04Less]) (fun X cs os0 K hok hos hK => ?_)
  clear hos; unfold sp_l04Rest at hK
  split at hK
  case h_2 => exact hK.elim
  rename_i p L v
  refine ⟨by simp, by simp, ?_⟩
  simp only [go_sem] at hK hok
  simp (maxSteps := 4000000) only [go_sem, Tryz.f109, ↓brB_t, ↓brB_f, Nat.reduceAdd, Int.reduceLE, Int.reduceLT, Int.reduceNeg, decide_true, decide_false, Bool.and_self, Nat.succ_eq_add_one, Int.toNat_natCast, Nat.beq_refl, Bool.and_true, Bool.true_and, Bool.false_or, Bool.or_true, List.all_cons, List.all_nil, Nat.reduceMul, Nat.add_zero, Nat.zero_add, List.length_nil, List.length_cons, dite_true, List.nil_append, Nat.reduceBEq, reduceDIte, reduceIte, reduceCtorEq, Bool.or_false, Bool.true_or, Bool.and_false, Bool.false_and, Bool.not_true, Bool.not_false, Option.isSome_some, Option.isSome_none, Option.getD_some, List.getElem?_cons_zero, List.getElem?_cons_succ, eq_self, and_self, List.take_succ_cons, List.take_zero, List.drop_succ_cons, List.drop_zero]
  obtain ⟨⟨hp, hll, m, hm, hR, hvo⟩, hK⟩ := hK
  clear hok
  refine loop_okF (T := tab [c_leadS, c_l04Less]) [0, 1, 2, 7] [] (fun i : Nat => ⟨34, [(0, vi p), (1, .val (.one (.ro kR L))), (2, ri (restL p ((L : List (List Int)).take i) v)), (7, vi i)], []⟩)
    (fun i => i ≤ L.length) (fun i => L.length - i) 0 rfl rfl (Nat.zero_le _) (fun i hi => ?_)
  simp only [go_sem, ↓brB_t, ↓brB_f, Nat.reduceAdd, Int.reduceLE, Int.reduceLT, Int.reduceNeg, decide_true, decide_false, Bool.and_self, Nat.succ_eq_add_one, Int.toNat_natCast, Nat.beq_refl, Bool.and_true, Bool.true_and, Bool.false_or, Bool.or_true, List.all_cons, List.all_nil, Nat.reduceMul, Nat.add_zero, Nat.zero_add, List.length_nil, List.length_cons, dite_true, List.nil_append, Nat.reduceBEq, reduceDIte, reduceIte, reduceCtorEq, Bool.or_false, Bool.true_or, Bool.and_false, Bool.false_and, Bool.not_true, Bool.not_false, Option.isSome_some, Option.isSome_none, Option.getD_some, List.getElem?_cons_zero, List.getElem?_cons_succ, eq_self, and_self, List.take_succ_cons, List.take_zero, List.drop_succ_cons, List.drop_zero]
  refine brB_intro (fun h1 => ?_) (fun h1 => ret0 ?_)
  · have h1 := of_decide_eq_true h1
    have hil : i < L.length := by omega
    have hw1 : w64 ((i : Int) + 1) = ((i + 1 : Nat) : Int) := w64_id (by omega) (by omega)
    obtain ⟨b1, b2, b3⟩ := red_lead hR (show (L : List (List Int)).getD i [] ∈ L by rw [getR_lt hil]; exact List.getElem_mem _)
    have hrt : Red p m ((L : List (List Int)).take i) := ⟨fun b h => hR.rows b (List.mem_of_mem_take h), hR.apart.sublist (List.take_sublist _ _)⟩
    have hro := restL_ok (by omega) hrt hvo
    have hs := rest_s (p := p) v hil
    generalize (L : List (List Int)).getD i [] = b at *
    generalize restL p ((L : List (List Int)).take i) v = r at *
    have hli : leadI b = (leadN b : Int) := if_pos b1
    have hg := rowOk_get hro.2 (by omega) (leadN b)
    have hr1 := hro.1
    rw [hli, Int.toNat_natCast, hw1]
    refine ⟨⟨by omega, by omega⟩, ⟨by omega, by omega⟩, brB_intro (fun h2 => ⟨⟨by omega, by omega⟩, ⟨hp, by omega, by omega, hro.2, b3, hg⟩, i + 1, [], by omega, by omega, rfl, ?_⟩) (fun h2 => ⟨i + 1, [], by omega, by omega, rfl, ?_⟩)⟩
    · rw [lessK_l, ← hs]; rfl
    · have h2 := of_decide_eq_true (snb' h2)
      rw [lessL_none (m := m) (by omega) hro h2] at hs
      rw [hs]; rfl
  · have h1 := of_decide_eq_false h1
    have e : i = L.length := by omega
    rw [e, List.take_length]; exact hK
def c_l04Rest : Ctr Tryz.prog := ⟨109, ent Tryz.func109 rfl rfl, [], sp_l04Rest, good_l04Rest, [false, false, true]⟩
@[go_sem] theorem c_l04Rest_f : c_l04Rest.f = 109 := rfl
@[go_sem] theorem c_l04Rest_ms : c_l04Rest.ms = [] := rfl
@[go_sem] theorem c_l04Rest_sp : c_l04Rest.spec = sp_l04Rest := rfl
@[go_sem] theorem c_l04Rest_fz : c_l04Rest.fz = [false, false, true] := rfl
attribute [go_sem] sp_l04Rest
def insS (f : List Int → List Int) (own : List Int) (k : Nat) (s : List (List Int) × Bool) (o : List Int) : List (List Int) × Bool :=
  if s.2 = false ∧ k < leadN o then (s.1 ++ [own] ++ [f o], true) else (s.1 ++ [f o], s.2)
def insF (f : List Int → List Int) (own : List Int) (k : Nat) (L : List (List Int)) : List (List Int) × Bool := L.foldl (insS f own k) ([], false)
theorem insF_s {f : List Int → List Int} {own : List Int} {k : Nat} {L : List (List Int)} {i : Nat} (h : i < L.length) : insF f own k (L.take (i + 1)) = insS f own k (insF f own k (L.take i)) (L.getD i []) := by
  rw [insF, List.take_succ_eq_append_getElem h, List.foldl_append, ← getR_lt h]; rfl
theorem insF_t {f : List Int → List Int} {own : List Int} {k : Nat} : ∀ (L A : List (List Int)), L.foldl (insS f own k) (A, true) = (A ++ L.map f, true)
  | [], A => by simp
  | o :: L, A => by
    rw [List.foldl_cons, insS, if_neg (by simp), insF_t L]
    simp
theorem insF_f {f : List Int → List Int} {own : List Int} {k : Nat} : ∀ (L A : List (List Int)), (if (L.foldl (insS f own k) (A, false)).2 = false then (L.foldl (insS f own k) (A, false)).1 ++ [own] else (L.foldl (insS f own k) (A, false)).1) = A ++ insR f own k L
  | [], A => rfl
  | o :: L, A => by
    rw [List.foldl_cons, insR]
    by_cases h : k < leadN o
    · have e : insS f own k (A, false) o = (A ++ [own] ++ [f o], true) := if_pos ⟨rfl, h⟩
      rw [e, if_pos h, insF_t L]
      simp
    · have e : insS f own k (A, false) o = (A ++ [f o], false) := if_neg fun hh => h hh.2
      rw [e, if_neg h, insF_f L]
      simp
theorem insF_R (f : List Int → List Int) (own : List Int) (k : Nat) (L : List (List Int)) : (if (insF f own k L).2 = false then (insF f own k L).1 ++ [own] else (insF f own k L).1) = insR f own k L := by
  have := insF_f (f := f) (own := own) (k := k) L []
  rwa [List.nil_append] at this
theorem insF_len {f : List Int → List Int} {own : List Int} {k : Nat} (L : List (List Int)) (i : Nat) : (insF f own k (L.take i)).1.length ≤ 2 * i := by
  induction i with
  | zero => exact Nat.le_refl 0
  | succ i ih =>
    by_cases h : i < L.length
    · rw [insF_s h, insS]
      split <;> simp <;> omega
    · rw [List.take_of_length_le (by omega)] at ih ⊢
      omega
def sp_l04Put : List Cv → List Obj' → Tree
  | [.one (.v (.int .i64 p)), .one (.ro (.sl 2 (.int .i64)) L), .one (.ro (.int .i64) v)], [] => .need (primeB p = true ∧ (L : List (List Int)).length ≤ 1000000 ∧ ∃ m : Nat, m ≤ 1000000 ∧ Red p m L ∧ okRow p m v) (.ret (.val (.one (.ro (.sl 2 (.int .i64)) (putS (invF p) p L v)))) [])
  | _, _ => .fail
set_option maxHeartbeats 4000000 in
set_option maxRecDepth 100000 in
theorem good_l04Put : Good Tryz.prog 72 sp_l04Put := by
  refine good_ofF Tryz.func72 rfl _ rfl _ rfl (tab [c_l04Rest, c_leadS, c_invS, c_l04Less]) (fun X cs os0 K hok hos hK => ?_)
  clear hos; unfold sp_l04Put at hK
  split at hK
  case h_2 => exact hK.elim
  rename_i p L v
  refine ⟨by simp, by simp, ?_⟩
  simp only [go_sem] at hK hok
  simp (maxSteps := 4000000) only [go_sem, Tryz.f72, ↓brB_t, ↓brB_f, Nat.reduceAdd, Int.reduceLE, Int.reduceLT, Int.reduceNeg, decide_true, decide_false, Bool.and_self, Nat.succ_eq_add_one, Int.toNat_natCast, Nat.beq_refl, Bool.and_true, Bool.true_and, Bool.false_or, Bool.or_true, List.all_cons, List.all_nil, Nat.reduceMul, Nat.add_zero, Nat.zero_add, List.length_nil, List.length_cons, dite_true, List.nil_append, Nat.reduceBEq, reduceDIte, reduceIte, reduceCtorEq, Bool.or_false, Bool.true_or, Bool.and_false, Bool.false_and, Bool.not_true, Bool.not_false, Option.isSome_some, Option.isSome_none, Option.getD_some, List.getElem?_cons_zero, List.getElem?_cons_succ, eq_self, and_self, List.take_succ_cons, List.take_zero, List.drop_succ_cons, List.drop_zero]
  obtain ⟨⟨hp, hll, m, hm, hR, hvo⟩, hK⟩ := hK
  clear hok
  have hp2 := primeB_r hp
  refine ⟨⟨hp2, hll, m, hm, hR, hvo⟩, ?_⟩
  have hro := restL_ok (by omega) hR hvo
  have hown := fun h : leadN (restL p L v) < (restL p L v).length => put_own (inv := invF p) (L := L) (v := v) (by omega) (inv_ok hp) hR hvo (by rw [hvo.1, ← hro.1]; exact h)
  unfold putS at hK
  rw [hvo.1, ← hro.1] at hK
  generalize restL p L v = r at *
  refine brB_intro (fun h1 => ret0 ?_) (fun h1 => ?_)
  · have h1 := of_decide_eq_true h1
    have hnl : ¬ leadN r < r.length := fun h => by rw [leadI, if_pos h] at h1; omega
    rw [if_neg hnl] at hK; exact hK
  · have h1 := of_decide_eq_false h1
    have hnl : leadN r < r.length := Decidable.byContradiction fun h => by rw [leadI, if_neg h] at h1; omega
    have hli : leadI r = (leadN r : Int) := if_pos hnl
    rw [if_pos hnl] at hK
    obtain ⟨o1, o2, o3⟩ := hown hnl
    have hg := rowOk_get hro.2 (by omega) (leadN r)
    have hnz := leadN_ne hnl
    rw [hli, Int.toNat_natCast]
    refine ⟨⟨by omega, by omega⟩, ⟨hp, by omega, by omega⟩, ?_⟩
    have hinv := inv_facts hp (show 0 < r.getD (leadN r) 0 by omega) hg.2
    generalize invF p (r.getD (leadN r) 0) = y at *
    have hX : (scaleL p y r).length = r.length := List.length_map ..
    have hr1 := hro.1
    refine loop_okF (T := tab [c_l04Rest, c_leadS, c_invS, c_l04Less]) [0, 1, 2, 7, 8, 9, 10] [(16, 480)] (fun i : Nat => ⟨93, [(0, vi p), (1, .val (.one (.ro kR L))), (2, ri r), (7, vi (leadN r)), (8, vi y), (9, ow 16), (10, vi i)], [(16, .row 2 (.int .i64) ((scaleL p y r).take i))]⟩)
      (fun i => i ≤ r.length) (fun i => r.length - i) 0 rfl rfl (Nat.zero_le _) (fun i hi => ?_)
    simp only [go_sem, ↓brB_t, ↓brB_f, Nat.reduceAdd, Int.reduceLE, Int.reduceLT, Int.reduceNeg, decide_true, decide_false, Bool.and_self, Nat.succ_eq_add_one, Int.toNat_natCast, Nat.beq_refl, Bool.and_true, Bool.true_and, Bool.false_or, Bool.or_true, List.all_cons, List.all_nil, Nat.reduceMul, Nat.add_zero, Nat.zero_add, List.length_nil, List.length_cons, dite_true, List.nil_append, Nat.reduceBEq, reduceDIte, reduceIte, reduceCtorEq, Bool.or_false, Bool.true_or, Bool.and_false, Bool.false_and, Bool.not_true, Bool.not_false, Option.isSome_some, Option.isSome_none, Option.getD_some, List.getElem?_cons_zero, List.getElem?_cons_succ, eq_self, and_self, List.take_succ_cons, List.take_zero, List.drop_succ_cons, List.drop_zero]
    refine brB_intro (fun h2 => ?_) (fun h2 => ?_)
    · have h2 := of_decide_eq_true h2
      have hil : i < r.length := by omega
      have hw1 : w64 ((i : Int) + 1) = ((i + 1 : Nat) : Int) := w64_id (by omega) (by omega)
      have gj := rowOk_get hro.2 (by omega) i
      have hm2 := mul_r12 (x := r.getD i 0) (y := y) (by omega) (by omega)
      have hs : (w64 (r.getD i 0 * y)).tmod p = (scaleL p y r).getD i 0 := by
        rw [w64_id (by omega) (by omega), Int.tmod_eq_emod_of_nonneg hm2.1, scaleL_get]
      have hts := takeI_s (l := scaleL p y r) (i := i) (by omega)
      rw [hs, hw1]
      refine ⟨⟨by omega, by omega⟩, by omega, by rw [List.length_take]; omega, i + 1, [(16, 752)], by omega, by omega, rfl, ?_⟩
      rw [hts]; rfl
    · have h2 := of_decide_eq_false h2
      have e : i = r.length := by omega
      have e : (scaleL p y r).take i = scaleL p y r := by rw [e, ← hX, List.take_length]
      rw [e]
      clear e h2 hi hX hnz hg hinv hli
      generalize scaleL p y r = w at *
      have wl : w.length = m := o1.ok.1
      refine holds_sub (sub_flat (i := 768) (t := 26) (k := kR) rfl) ?_
      refine loop_okF (T := tab [c_l04Rest, c_leadS, c_invS, c_l04Less]) [0, 1, 7, 9, 11, 12, 13] [(16, 768)] (fun i : Nat => ⟨93, [(0, vi p), (1, .val (.one (.ro kR L))), (7, vi (leadN r)), (9, ri w), (11, ow 16), (12, vb (insF (fun o => lessL p o w) w (leadN r) ((L : List (List Int)).take i)).2), (13, vi i)], [(16, .row 26 kR (insF (fun o => lessL p o w) w (leadN r) ((L : List (List Int)).take i)).1)]⟩)
        (fun i => i ≤ L.length) (fun i => L.length - i) 0 rfl rfl (Nat.zero_le _) (fun i hi => ?_)
      simp only [go_sem, ↓brB_t, ↓brB_f, Nat.reduceAdd, Int.reduceLE, Int.reduceLT, Int.reduceNeg, decide_true, decide_false, Bool.and_self, Nat.succ_eq_add_one, Int.toNat_natCast, Nat.beq_refl, Bool.and_true, Bool.true_and, Bool.false_or, Bool.or_true, List.all_cons, List.all_nil, Nat.reduceMul, Nat.add_zero, Nat.zero_add, List.length_nil, List.length_cons, dite_true, List.nil_append, Nat.reduceBEq, reduceDIte, reduceIte, reduceCtorEq, Bool.or_false, Bool.true_or, Bool.and_false, Bool.false_and, Bool.not_true, Bool.not_false, Option.isSome_some, Option.isSome_none, Option.getD_some, List.getElem?_cons_zero, List.getElem?_cons_succ, eq_self, and_self, List.take_succ_cons, List.take_zero, List.drop_succ_cons, List.drop_zero]
      have hfl := insF_len (f := fun o => lessL p o w) (own := w) (k := leadN r) L i
      refine brB_intro (fun h2 => ?_) (fun h2 => ?_)
      · have h2 := of_decide_eq_true h2
        have hil : i < L.length := by omega
        have hw1 : w64 ((i : Int) + 1) = ((i + 1 : Nat) : Int) := w64_id (by omega) (by omega)
        have hs := insF_s (f := fun o => lessL p o w) (own := w) (k := leadN r) hil
        obtain ⟨b1, b2, b3⟩ := red_lead hR (show (L : List (List Int)).getD i [] ∈ L by rw [getR_lt hil]; exact List.getElem_mem _)
        have hli : leadI ((L : List (List Int)).getD i []) = (leadN ((L : List (List Int)).getD i []) : Int) := if_pos b1
        have hgo := rowOk_get b3 (show 0 < p by omega) (leadN r)
        generalize insF (fun o => lessL p o w) w (leadN r) ((L : List (List Int)).take i) = s at *
        obtain ⟨A, d⟩ := s
        generalize (L : List (List Int)).getD i [] = o at *
        have hlm := o1.lead
        rw [o2] at hlm
        have hk : lessK p o w (o.getD (leadN r) 0) = lessL p o w := by rw [← o2]; rfl
        have hc : (2 ≤ p ∧ p ≤ 13) ∧ o.length = w.length ∧ o.length ≤ 1000000 ∧ rowOk p o ∧ rowOk p w ∧ 0 ≤ o.getD (leadN r) 0 ∧ o.getD (leadN r) 0 < p := ⟨hp2, by omega, by omega, b3, o1.ok.2, hgo⟩
        have hfl : A.length ≤ 2 * i := hfl
        rw [hli, hw1, hk]
        cases d with
        | true =>
          have hs : insF (fun o => lessL p o w) w (leadN r) ((L : List (List Int)).take (i + 1)) = (A ++ [lessL p o w], true) := hs.trans (if_neg fun h => absurd (show true = false from h.1) (by decide))
          exact ⟨⟨by omega, by omega⟩, ⟨by omega, by omega⟩, ⟨by omega, by omega⟩, hc, by show A.length + 1 ≤ _; omega, by kernel_rfl, i + 1, [(16, 1376)], by omega, by omega, rfl, by rw [hs]; rfl⟩
        | false =>
          refine ⟨⟨by omega, by omega⟩, brB_intro (fun h3 => ?_) (fun h3 => ?_)⟩
          · have h3 := of_decide_eq_true h3
            have hs : insF (fun o => lessL p o w) w (leadN r) ((L : List (List Int)).take (i + 1)) = (A ++ [w] ++ [lessL p o w], true) := hs.trans (if_pos ⟨rfl, by omega⟩)
            exact ⟨by show A.length + 1 ≤ _; omega, ⟨by omega, by omega⟩, ⟨by omega, by omega⟩, ⟨by omega, by omega⟩, hc, by show (A ++ [w]).length + 1 ≤ _; rw [List.length_append, List.length_singleton]; omega, by kernel_rfl, i + 1, [(16, 1376)], by omega, by omega, rfl, by rw [hs]; rfl⟩
          · have h3 := of_decide_eq_false h3
            have hs : insF (fun o => lessL p o w) w (leadN r) ((L : List (List Int)).take (i + 1)) = (A ++ [lessL p o w], false) := hs.trans (if_neg fun h => absurd h.2 (by omega))
            exact ⟨⟨by omega, by omega⟩, ⟨by omega, by omega⟩, ⟨by omega, by omega⟩, hc, by show A.length + 1 ≤ _; omega, by kernel_rfl, i + 1, [(16, 1376)], by omega, by omega, rfl, by rw [hs]; rfl⟩
      · have h2 := of_decide_eq_false h2
        have e : i = L.length := by omega
        rw [e, List.take_length] at hfl ⊢
        have hins := insF_R (fun o => lessL p o w) w (leadN r) L
        rw [← hins] at hK
        generalize insF (fun o => lessL p o w) w (leadN r) L = s at *
        obtain ⟨A, d⟩ := s
        have hfl : A.length ≤ 2 * L.length := hfl
        cases d with
        | true => exact retN [] rfl hK
        | false => exact ⟨by show A.length + 1 ≤ _; omega, retN [] rfl hK⟩
def c_l04Put : Ctr Tryz.prog := ⟨72, ent Tryz.func72 rfl rfl, [], sp_l04Put, good_l04Put, [false, false, true]⟩
@[go_sem] theorem c_l04Put_f : c_l04Put.f = 72 := rfl
@[go_sem] theorem c_l04Put_ms : c_l04Put.ms = [] := rfl
@[go_sem] theorem c_l04Put_sp : c_l04Put.spec = sp_l04Put := rfl
@[go_sem] theorem c_l04Put_fz : c_l04Put.fz = [false, false, true] := rfl
attribute [go_sem] sp_l04Put
end Go.Proofs.YthfmlelodmcgkaaGreat.V
end
section
namespace Go.Proofs.YthfmlelodmcgkaaGreat.V
open Go
abbrev LL := List (List Int)
def preF (g : Nat → LL) : Nat → LL
  | 0 => []
  | x + 1 => preF g x ++ g x
def fillL (n : Nat) : Nat → List Int → Nat → LL
  | 0, w, _ => [w]
  | d + 1, w, met => preF (fun x => if w.count (x : Int) < 2 then fillL n d (w ++ [(x : Int)]) (max met (x + 1)) else []) (min (met + 1) n)
def stepL (n d : Nat) (w : List Int) (met x : Nat) : LL := if w.count (x : Int) < 2 then fillL n d (w ++ [(x : Int)]) (max met (x + 1)) else []
theorem fillL_s (n d : Nat) (w : List Int) (met : Nat) : fillL n (d + 1) w met = preF (stepL n d w met) (min (met + 1) n) := rfl
theorem preF_len {g : Nat → LL} {b : Nat} (h : ∀ x, (g x).length ≤ b) : ∀ n, (preF g n).length ≤ n * b
  | 0 => by simp [preF]
  | n + 1 => by
    have h1 := preF_len h n
    have h2 := h n
    rw [preF, List.length_append, Nat.add_mul]; omega
theorem fillL_len (n : Nat) : ∀ (d : Nat) (w : List Int) (met : Nat), (fillL n d w met).length ≤ n ^ d
  | 0, w, met => by simp [fillL]
  | d + 1, w, met => by
    have h1 := preF_len (g := stepL n d w met) (b := n ^ d) (fun x => by
      unfold stepL
      split
      · exact fillL_len n d _ _
      · exact Nat.zero_le _) (min (met + 1) n)
    rw [fillL_s]
    refine Nat.le_trans h1 ?_
    rw [Nat.pow_succ, Nat.mul_comm (n ^ d)]
    exact Nat.mul_le_mul_right _ (Nat.min_le_right _ _)
theorem stepL_len (n d : Nat) (w : List Int) (met x : Nat) : (stepL n d w met x).length ≤ n ^ d := by
  unfold stepL
  split
  · exact fillL_len n d _ _
  · exact Nat.zero_le _
def onesL (w : List Int) (met : Nat) : List Int := ((List.range met).filter fun x : Nat => decide (w.count (x : Int) = 1)).map fun x : Nat => (x : Int)
theorem onesL_s (w : List Int) (met : Nat) : onesL w (met + 1) = onesL w met ++ if w.count (met : Int) = 1 then [(met : Int)] else [] := by
  unfold onesL
  rw [List.range_succ, List.filter_append, List.map_append]
  by_cases h : w.count (met : Int) = 1
  · simp [h]
  · simp [h]
theorem onesL_mem {w : List Int} {met : Nat} {x : Int} (h : x ∈ onesL w met) : ∃ i : Nat, x = i ∧ i < met ∧ w.count (i : Int) = 1 := by
  obtain ⟨i, hi, rfl⟩ := List.mem_map.1 h
  have := List.mem_filter.1 hi
  exact ⟨i, rfl, List.mem_range.1 this.1, by simpa using this.2⟩
theorem onesL_len (w : List Int) : ∀ met, (onesL w met).length ≤ met
  | 0 => by simp [onesL]
  | m + 1 => by
    have := onesL_len w m
    rw [onesL_s, List.length_append]
    split <;> simp <;> omega
theorem onesL_nodup (w : List Int) : ∀ met, (onesL w met).Nodup
  | 0 => by simp [onesL]
  | m + 1 => by
    rw [onesL_s]
    split
    · rw [List.nodup_append]
      refine ⟨onesL_nodup w m, by simp, fun a ha b hb => ?_⟩
      obtain ⟨i, rfl, hi, _⟩ := onesL_mem ha
      have hb : b = (m : Int) := by simpa using hb
      omega
    · simpa using onesL_nodup w m
def begB (w : List Int) (met : Nat) : Prop := (∀ x ∈ w, 0 ≤ x ∧ x < (met : Int)) ∧ ∀ i : Nat, i < met → 1 ≤ w.count (i : Int) ∧ w.count (i : Int) ≤ 2
theorem begB_nil : begB [] 0 := ⟨fun x hx => by simp at hx, fun i hi => by omega⟩
theorem count_snoc (w : List Int) (a x : Int) : (w ++ [a]).count x = w.count x + if a = x then 1 else 0 := by
  rw [List.count_append, List.count_singleton]
  simp
theorem begB_count {w : List Int} {met x : Nat} (h : begB w met) (hx : met ≤ x) : w.count (x : Int) = 0 := by
  rw [List.count_eq_zero]
  intro hm
  have := (h.1 _ hm).2
  omega
theorem begB_old {w : List Int} {met x : Nat} (h : begB w met) (hx : x < met) (h1 : w.count (x : Int) = 1) : begB (w ++ [(x : Int)]) met := by
  refine ⟨fun y hy => ?_, fun i hi => ?_⟩
  · rcases List.mem_append.1 hy with hy | hy
    · exact h.1 y hy
    · have : y = (x : Int) := by simpa using hy
      omega
  · rw [count_snoc]
    have := h.2 i hi
    split
    · rename_i e
      have : x = i := by omega
      subst this
      omega
    · omega
theorem begB_new {w : List Int} {met : Nat} (h : begB w met) : begB (w ++ [(met : Int)]) (met + 1) := by
  refine ⟨fun y hy => ?_, fun i hi => ?_⟩
  · rcases List.mem_append.1 hy with hy | hy
    · have := h.1 y hy; omega
    · have : y = (met : Int) := by simpa using hy
      omega
  · rw [count_snoc]
    by_cases e : i = met
    · subst e
      rw [begB_count h (Nat.le_refl _)]; simp
    · have := h.2 i (by omega)
      rw [if_neg (by omega)]; omega
theorem onesL_new {w : List Int} {met : Nat} (h : begB w met) : onesL (w ++ [(met : Int)]) (met + 1) = onesL w met ++ [(met : Int)] := by
  rw [onesL_s, count_snoc, begB_count h (Nat.le_refl _), if_pos rfl, if_pos rfl]
  congr 1
  unfold onesL
  congr 1
  refine List.filter_congr fun x hx => ?_
  have hx := List.mem_range.1 hx
  rw [count_snoc, if_neg (by omega)]; simp
theorem onesL_old {w : List Int} {met : Nat} {k : Nat} (hk : k < (onesL w met).length) : onesL (w ++ [(onesL w met)[k]]) met = (onesL w met).eraseIdx k := by
  have e : onesL (w ++ [(onesL w met)[k]]) met = (onesL w met).filter (fun x => decide (x ≠ (onesL w met)[k])) := by
    obtain ⟨i, hi, him, hc⟩ := onesL_mem (List.getElem_mem hk)
    rw [hi]
    unfold onesL
    rw [List.filter_map, List.filter_filter]
    congr 1
    refine List.filter_congr fun x hx => ?_
    simp only [Function.comp]
    rw [count_snoc]
    by_cases e : i = x
    · subst e
      rw [if_pos rfl, hc]; simp
    · rw [if_neg (by omega)]
      have : ¬ ((x : Int) = (i : Int)) := by omega
      simp [this]
  rw [e]
  have hn := onesL_nodup w met
  generalize onesL w met = l at *
  clear e
  induction l generalizing k with
  | nil => simp at hk
  | cons a l ih =>
    have hn' := List.nodup_cons.1 hn
    cases k with
    | zero =>
      simp only [List.getElem_cons_zero, List.eraseIdx_cons_zero]
      rw [List.filter_cons_of_neg (by simp), List.filter_eq_self]
      intro x hx
      have : x ≠ a := fun e => hn'.1 (e ▸ hx)
      simp [this]
    | succ k =>
      simp only [List.getElem_cons_succ, List.eraseIdx_cons_succ]
      have hkl : k < l.length := by simpa using hk
      have : a ≠ l[k] := fun e => hn'.1 (e ▸ List.getElem_mem hkl)
      rw [List.filter_cons_of_pos (by simp [this]), ih hkl hn'.2]
def onesF (n d : Nat) (w : List Int) (met k : Nat) : LL := ((onesL w met).take k).flatMap fun x => fillL n d (w ++ [x]) met
theorem onesF_s {n d : Nat} {w : List Int} {met k : Nat} (hk : k < (onesL w met).length) : onesF n d w met (k + 1) = onesF n d w met k ++ fillL n d (w ++ [(onesL w met)[k]]) met := by
  unfold onesF
  rw [List.take_succ_eq_append_getElem hk, List.flatMap_append]; simp
theorem pre_ones (n d : Nat) (w : List Int) (met : Nat) : ∀ m, m ≤ met → (∀ i : Nat, i < met → 1 ≤ w.count (i : Int) ∧ w.count (i : Int) ≤ 2) → preF (stepL n d w met) m = (onesL w m).flatMap fun x => fillL n d (w ++ [x]) met
  | 0, _, _ => by simp [preF, onesL]
  | m + 1, hm, h => by
    rw [preF, pre_ones n d w met m (by omega) h, onesL_s, List.flatMap_append]
    congr 1
    unfold stepL
    have h1 := h m (by omega)
    by_cases e : w.count (m : Int) = 1
    · rw [if_pos (by omega), if_pos e, Nat.max_eq_left (by omega)]; simp
    · rw [if_neg (by omega), if_neg e]; simp
theorem fill_ones {n d : Nat} {w : List Int} {met : Nat} (h : begB w met) (hm : met ≤ n) : fillL n (d + 1) w met = onesF n d w met (onesL w met).length ++ if met < n then fillL n d (w ++ [(met : Int)]) (met + 1) else [] := by
  rw [fillL_s, onesF, List.take_length]
  by_cases e : met < n
  · rw [if_pos e, Nat.min_eq_left (by omega), preF, pre_ones n d w met met (Nat.le_refl _) h.2]
    congr 1
    unfold stepL
    rw [begB_count h (Nat.le_refl _), if_pos (by omega), Nat.max_eq_right (by omega)]
  · have : met = n := by omega
    subst this
    rw [if_neg e, Nat.min_eq_right (by omega), pre_ones _ d w _ _ (Nat.le_refl _) h.2, List.append_nil]
def allL (n : Nat) : LL := fillL n (2 * n) [] 0
end Go.Proofs.YthfmlelodmcgkaaGreat.V
end
section
namespace Go.Proofs.YthfmlelodmcgkaaGreat.V
open Go
abbrev tRR : Nat := 26
def sp_fill (d : Nat) : List Cv → List Obj' → Tree
  | [.one (.ro (.int .i64) w), .one (.v (.int .i64 m)), .one (.v (.int .i64 n))], [] =>
    .need ((0 ≤ m ∧ m ≤ n ∧ n ≤ 5) ∧ ((w : List Int).length : Int) + (d : Nat) = 2 * n) (.ret (.val (.one (.ro (.sl 2 (.int .i64)) (fillL n.toNat d w m.toNat)))) [])
  | _, _ => .fail
set_option maxHeartbeats 4000000 in
set_option maxRecDepth 100000 in
theorem good_fill0 : Good Tryz.prog 130 (sp_fill 0) := by
  refine good_ofF Tryz.func130 rfl _ rfl _ rfl (tab [c_own]) (fun X cs os0 K hok hos hK => ?_)
  clear hos; unfold sp_fill at hK
  split at hK
  case h_2 => exact hK.elim
  rename_i w m n
  refine ⟨by simp, by simp, ?_⟩
  simp only [go_sem] at hK hok
  simp (maxSteps := 4000000) only [go_sem, Tryz.f130, ↓brB_t, ↓brB_f, Nat.reduceAdd, Int.reduceLE, Int.reduceLT, Int.reduceNeg, decide_true, decide_false, Bool.and_self, Nat.succ_eq_add_one, Int.toNat_natCast, Nat.beq_refl, Bool.and_true, Bool.true_and, Bool.false_or, Bool.or_true, List.all_cons, List.all_nil, Nat.reduceMul, Nat.add_zero, Nat.zero_add, List.length_nil, List.length_cons, dite_true, List.nil_append, Nat.reduceBEq, reduceDIte, reduceIte, reduceCtorEq, Bool.or_false, Bool.true_or, Bool.and_false, Bool.false_and, Bool.not_true, Bool.not_false, Option.isSome_some, Option.isSome_none, Option.getD_some, List.getElem?_cons_zero, List.getElem?_cons_succ, eq_self, and_self, List.take_succ_cons, List.take_zero, List.drop_succ_cons, List.drop_zero]
  obtain ⟨⟨⟨h0, hm, hn⟩, hl⟩, hK⟩ := hK
  clear hok
  refine brB_intro (fun h1 => retN [] rfl hK) (fun h1 => ?_)
  have h1 := of_decide_eq_false h1
  rw [w64_id (by omega) (by omega)] at h1
  omega
def c_fill (d : Nat) (ih : Good Tryz.prog 130 (sp_fill d)) : Ctr Tryz.prog := ⟨130, ent Tryz.func130 rfl rfl, [], sp_fill d, ih, [true]⟩
@[go_sem] theorem c_fill_f (d : Nat) (ih : Good Tryz.prog 130 (sp_fill d)) : (c_fill d ih).f = 130 := rfl
@[go_sem] theorem c_fill_ms (d : Nat) (ih : Good Tryz.prog 130 (sp_fill d)) : (c_fill d ih).ms = [] := rfl
@[go_sem] theorem c_fill_s (d : Nat) (ih : Good Tryz.prog 130 (sp_fill d)) : (c_fill d ih).spec = sp_fill d := rfl
@[go_sem] theorem c_fill_fz (d : Nat) (ih : Good Tryz.prog 130 (sp_fill d)) : (c_fill d ih).fz = [true] := rfl
attribute [go_sem] sp_fill
set_option maxHeartbeats 4000000 in
set_option maxRecDepth 100000 in
theorem good_fillS (d : Nat) (ih : Good Tryz.prog 130 (sp_fill d)) : Good Tryz.prog 130 (sp_fill (d + 1)) := by
  refine good_ofF Tryz.func130 rfl _ rfl _ rfl (tab [c_own, c_fill d ih]) (fun X cs os0 K hok hos hK => ?_)
  clear hos; unfold sp_fill at hK
  split at hK
  case h_2 => exact hK.elim
  rename_i w m n
  refine ⟨by simp, by simp, ?_⟩
  simp only [go_sem] at hK hok
  simp (maxSteps := 4000000) only [go_sem, Tryz.f130, ↓brB_t, ↓brB_f, Nat.reduceAdd, Int.reduceLE, Int.reduceLT, Int.reduceNeg, decide_true, decide_false, Bool.and_self, Nat.succ_eq_add_one, Int.toNat_natCast, Nat.beq_refl, Bool.and_true, Bool.true_and, Bool.false_or, Bool.or_true, List.all_cons, List.all_nil, Nat.reduceMul, Nat.add_zero, Nat.zero_add, List.length_nil, List.length_cons, dite_true, List.nil_append, Nat.reduceBEq, reduceDIte, reduceIte, reduceCtorEq, Bool.or_false, Bool.true_or, Bool.and_false, Bool.false_and, Bool.not_true, Bool.not_false, Option.isSome_some, Option.isSome_none, Option.getD_some, List.getElem?_cons_zero, List.getElem?_cons_succ, eq_self, and_self, List.take_succ_cons, List.take_zero, List.drop_succ_cons, List.drop_zero]
  obtain ⟨⟨⟨h0, hm, hn⟩, hl⟩, hK⟩ := hK
  clear hok
  refine brB_intro (fun h1 => ?_) (fun h1 => ?_)
  · have h1 := of_decide_eq_true h1
    rw [w64_id (by omega) (by omega)] at h1
    omega
  clear h1
  obtain ⟨M, rfl⟩ : ∃ M : Nat, m = M := ⟨m.toNat, by omega⟩
  obtain ⟨N, rfl⟩ : ∃ N : Nat, n = N := ⟨n.toNat, by omega⟩
  rw [Int.toNat_natCast, Int.toNat_natCast, fillL_s] at hK
  have hsl : ∀ x, (stepL N d w M x).length ≤ N ^ d := stepL_len N d w M
  have hpl : ∀ x, (preF (stepL N d w M) x).length ≤ x * N ^ d := preF_len hsl
  have hN5 : N ^ d ≤ 9765625 := Nat.le_trans (Nat.pow_le_pow_left (show N ≤ 5 by omega) d) (Nat.le_trans (Nat.pow_le_pow_right (by omega) (show d ≤ 10 by omega)) (by decide))
  refine holds_sub (sub_flat (i := 304) (t := tRR) (k := kR) rfl) ?_
  refine loop_okF (T := tab [c_own, c_fill d ih]) [0, 1, 2, 7, 8] [(16, 304)] (fun x : Nat => ⟨59, [(0, ri w), (1, vi M), (2, vi N), (7, ow 16), (8, vi x)], [(16, .row tRR kR (preF (stepL N d w M) x))]⟩)
    (fun x => x ≤ min (M + 1) N) (fun x => min (M + 1) N - x) 0 rfl rfl (Nat.zero_le _) (fun x hx => ?_)
  simp only [go_sem, ↓brB_t, ↓brB_f, Nat.reduceAdd, Int.reduceLE, Int.reduceLT, Int.reduceNeg, decide_true, decide_false, Bool.and_self, Nat.succ_eq_add_one, Int.toNat_natCast, Nat.beq_refl, Bool.and_true, Bool.true_and, Bool.false_or, Bool.or_true, List.all_cons, List.all_nil, Nat.reduceMul, Nat.add_zero, Nat.zero_add, List.length_nil, List.length_cons, dite_true, List.nil_append, Nat.reduceBEq, reduceDIte, reduceIte, reduceCtorEq, Bool.or_false, Bool.true_or, Bool.and_false, Bool.false_and, Bool.not_true, Bool.not_false, Option.isSome_some, Option.isSome_none, Option.getD_some, List.getElem?_cons_zero, List.getElem?_cons_succ, eq_self, and_self, List.take_succ_cons, List.take_zero, List.drop_succ_cons, List.drop_zero]
  refine brB_intro (fun h1 => brB_intro (fun h2 => ?_) (fun h2 => ?_)) (fun h1 => ?_)
  · have h1 := of_decide_eq_true h1
    have h2 := of_decide_eq_true h2
    have hs := hpl x
    have hxn : x * N ^ d ≤ 5 * 9765625 := Nat.mul_le_mul (by omega) hN5
    have hw1 : w64 ((x : Int) + 1) = ((x + 1 : Nat) : Int) := w64_id (by omega) (by omega)
    refine loop_okF (T := tab [c_own, c_fill d ih]) [0, 1, 2, 7, 8, 9, 10] [(16, 16)] (fun i : Nat => ⟨59, [(0, ri w), (1, vi M), (2, vi N), (7, ow 16), (8, vi x), (9, vi ((w.take i).count (x : Int) : Nat)), (10, vi i)], [(16, .row tRR kR (preF (stepL N d w M) x))]⟩)
      (fun i => i ≤ w.length) (fun i => w.length - i) 0 rfl rfl (Nat.zero_le _) (fun i hi => ?_)
    have hcl := List.count_le_length (a := (x : Int)) (l := w.take i)
    rw [List.length_take] at hcl
    simp only [go_sem, ↓brB_t, ↓brB_f, Nat.reduceAdd, Int.reduceLE, Int.reduceLT, Int.reduceNeg, decide_true, decide_false, Bool.and_self, Nat.succ_eq_add_one, Int.toNat_natCast, Nat.beq_refl, Bool.and_true, Bool.true_and, Bool.false_or, Bool.or_true, List.all_cons, List.all_nil, Nat.reduceMul, Nat.add_zero, Nat.zero_add, List.length_nil, List.length_cons, dite_true, List.nil_append, Nat.reduceBEq, reduceDIte, reduceIte, reduceCtorEq, Bool.or_false, Bool.true_or, Bool.and_false, Bool.false_and, Bool.not_true, Bool.not_false, Option.isSome_some, Option.isSome_none, Option.getD_some, List.getElem?_cons_zero, List.getElem?_cons_succ, eq_self, and_self, List.take_succ_cons, List.take_zero, List.drop_succ_cons, List.drop_zero]
    refine brB_intro (fun h3 => ?_) (fun h3 => ?_)
    · have h3 := of_decide_eq_true h3
      have hi1 : w64 ((i : Int) + 1) = ((i + 1 : Nat) : Int) := w64_id (by omega) (by omega)
      have hcs : (w.take (i + 1)).count (x : Int) = (w.take i).count (x : Int) + if w.getD i 0 = (x : Int) then 1 else 0 := by
        rw [List.take_succ_eq_append_getElem (by omega), count_snoc, getD_eq (by omega)]
      refine ⟨⟨by omega, by omega⟩, brB_intro (fun h4 => ?_) (fun h4 => ?_)⟩
      · have h4 := of_decide_eq_true h4
        rw [if_pos h4] at hcs
        refine ⟨i + 1, [(16, 16)], by omega, by omega, rfl, ?_⟩
        rw [hi1, hcs, w64_id (by omega) (by omega)]; rfl
      · have h4 := of_decide_eq_false h4
        rw [if_neg h4] at hcs
        refine ⟨i + 1, [(16, 16)], by omega, by omega, rfl, ?_⟩
        rw [hi1, hcs]; rfl
    · have h3 := of_decide_eq_false h3
      have e : i = w.length := by omega
      subst e
      rw [List.take_length] at hcl ⊢
      have hps : preF (stepL N d w M) (x + 1) = preF (stepL N d w M) x ++ stepL N d w M x := rfl
      have hsx := hsl x
      refine brB_intro (fun h4 => ?_) (fun h4 => ?_)
      · have h4 := of_decide_eq_true h4
        have hst : stepL N d w M x = fillL N d (w ++ [(x : Int)]) (max M (x + 1)) := if_pos (by omega)
        rw [hst] at hps hsx
        have hmx : mx (M : Int) (w64 ((x : Int) + 1)) = ((max M (x + 1) : Nat) : Int) := by
          rw [hw1]; unfold mx; split <;> omega
        have hla : (w ++ [(x : Int)]).length = w.length + 1 := by rw [List.length_append]; rfl
        rw [hmx]
        refine ⟨by omega, by omega, ⟨⟨by omega, by omega, hn⟩, by rw [hla]; omega⟩, by rw [Int.toNat_natCast]; omega, x + 1, [(16, 928)], by omega, by omega, rfl, ?_⟩
        rw [hw1, hps, Int.toNat_natCast]; rfl
      · have h4 := of_decide_eq_false h4
        have hst : stepL N d w M x = [] := if_neg (by omega)
        rw [hst, List.append_nil] at hps
        refine ⟨x + 1, [(16, 16)], by omega, by omega, rfl, ?_⟩
        rw [hw1, hps]; rfl
  · have h1 := of_decide_eq_true h1
    have h2 := of_decide_eq_false h2
    have e : x = min (M + 1) N := by omega
    rw [e]; exact retN [] rfl hK
  · have h1 := of_decide_eq_false h1
    have e : x = min (M + 1) N := by omega
    rw [e]; exact retN [] rfl hK
theorem good_fill : ∀ d, Good Tryz.prog 130 (sp_fill d)
  | 0 => good_fill0
  | d + 1 => good_fillS d (good_fill d)
def sp_allN (N : Nat) : List Cv → List Obj' → Tree
  | [.one (.v (.int .i64 n))], [] => .need (n = (N : Nat) ∧ N ≤ 5) (.ret (.val (.one (.ro (.sl 2 (.int .i64)) (allL N)))) [])
  | _, _ => .fail
set_option maxHeartbeats 4000000 in
set_option maxRecDepth 100000 in
theorem good_allN (N : Nat) : Good Tryz.prog 87 (sp_allN N) := by
  refine good_ofF Tryz.func87 rfl _ rfl _ rfl (tab [c_fill (2 * N) (good_fill (2 * N))]) (fun X cs os0 K hok hos hK => ?_)
  clear hos; unfold sp_allN at hK
  split at hK
  case h_2 => exact hK.elim
  rename_i n
  refine ⟨by simp, by simp, ?_⟩
  simp only [go_sem] at hK hok
  simp (maxSteps := 4000000) only [go_sem, Tryz.f87, ↓brB_t, ↓brB_f, Nat.reduceAdd, Int.reduceLE, Int.reduceLT, Int.reduceNeg, decide_true, decide_false, Bool.and_self, Nat.succ_eq_add_one, Int.toNat_natCast, Nat.beq_refl, Bool.and_true, Bool.true_and, Bool.false_or, Bool.or_true, List.all_cons, List.all_nil, Nat.reduceMul, Nat.add_zero, Nat.zero_add, List.length_nil, List.length_cons, dite_true, List.nil_append, Nat.reduceBEq, reduceDIte, reduceIte, reduceCtorEq, Bool.or_false, Bool.true_or, Bool.and_false, Bool.false_and, Bool.not_true, Bool.not_false, Option.isSome_some, Option.isSome_none, Option.getD_some, List.getElem?_cons_zero, List.getElem?_cons_succ, eq_self, and_self, List.take_succ_cons, List.take_zero, List.drop_succ_cons, List.drop_zero]
  obtain ⟨⟨rfl, hN⟩, hK⟩ := hK
  clear hok
  refine ⟨⟨⟨trivial, by omega, by omega⟩, by omega⟩, retN [] rfl ?_⟩
  show K (Rv.val (Cv.one (A.ro (Kn.sl 2 (Kn.int IntKind.i64)) (fillL ((N : Nat) : Int).toNat (2 * N) [] (Int.toNat 0))))) []
  rw [Int.toNat_natCast]; exact hK
def sp_all : List Cv → List Obj' → Tree
  | [.one (.v (.int .i64 n))], [] => .need (0 ≤ n ∧ n ≤ 5) (.ret (.val (.one (.ro (.sl 2 (.int .i64)) (allL n.toNat)))) [])
  | _, _ => .fail
theorem good_all : Good Tryz.prog 87 sp_all := good_ex good_allN fun cs os K h => by
  unfold sp_all at h
  split at h
  case h_2 => exact h.elim
  rename_i n
  obtain ⟨⟨h0, h5⟩, h⟩ := h
  exact ⟨n.toNat, ⟨by omega, by omega⟩, h⟩
def c_all : Ctr Tryz.prog := ⟨87, ent Tryz.func87 rfl rfl, [], sp_all, good_all, []⟩
@[go_sem] theorem c_all_f : c_all.f = 87 := rfl
@[go_sem] theorem c_all_ms : c_all.ms = [] := rfl
@[go_sem] theorem c_all_sp : c_all.spec = sp_all := rfl
@[go_sem] theorem c_all_fz : c_all.fz = [] := rfl
attribute [go_sem] sp_all
end Go.Proofs.YthfmlelodmcgkaaGreat.V
end
section
namespace Go.Proofs.YthfmlelodmcgkaaGreat.V
open Go Go.Shelf Go.Proofs
def dl_ren : Go.Shelf.Ren := ⟨fun | 45 => 148 | n => n, fun | 22 => 26 | 23 => 2 | 3 => 3 | 0 => 0 | 4 => 4 | n => n, fun | n => n⟩
theorem dl_lay : Go.Proofs.SlLaysE.n45 Tryz.prog dl_ren := {
  mixed := by kernel_rfl,
  f45 := ⟨Tryz.f148.name, by decide, Tryz.func148.trans (congrArg some (by kernel_rfl))⟩,
  t0 := Tryz.underlying0,
  a0 := Tryz.isAgg0,
  z0 := Tryz.sizeOf0,
  v0 := Tryz.zeroValue0,
  t3 := Tryz.underlying3,
  a3 := Tryz.isAgg3,
  z3 := Tryz.sizeOf3,
  v3 := Tryz.zeroValue3,
  t4 := Tryz.underlying4,
  a4 := Tryz.isAgg4,
  z4 := Tryz.sizeOf4,
  v4 := Tryz.zeroValue4,
  t22 := Tryz.underlying26,
  a22 := Tryz.isAgg26,
  z22 := Tryz.sizeOf26,
  v22 := Tryz.zeroValue26,
  a23 := Tryz.isAgg2,
  z23 := Tryz.sizeOf2 }
def sp_delAt : List Cv → List Obj' → Tree
  | [.one (.own 0), .one (.v (.int .i64 i)), .one (.v (.int .i64 j))], [.row 2 (.int .i64) l] => .need (0 ≤ i ∧ i < j ∧ j ≤ (l.length : Int)) (.ret (ow 1) [.dead, rwi (l.take i.toNat ++ l.drop j.toNat)])
  | _, _ => .fail
theorem putC_take (F : Array Int) (c : Array Value) (h : F.size ≤ c.size) : (Go.Sort.putCells (Value.int .i64) 0 F c).toList.take F.size = F.toList.map (Value.int .i64) := by
  apply List.ext_getElem?
  intro t
  rw [List.getElem?_take]
  by_cases ht : t < F.size
  · rw [if_pos ht]
    have hc : t < c.size := by omega
    simp [Go.Sort.putCells, ht, hc]
  · rw [if_neg ht]
    simp [ht]
theorem reps_ints {F : Nat → Prop} {w : World} : ∀ {l : List Int} {xs : List Value}, Reps F w (.int .i64) l xs → xs = l.map (Value.int .i64) ∧ ∀ x ∈ l, okI .i64 x
  | [], xs, h => ⟨h, fun _ h => (by cases h)⟩
  | x :: l, xs, ⟨c1, c2, h, ⟨h1, h2⟩, h3⟩ => by
    obtain ⟨e, k⟩ := reps_ints h3
    refine ⟨by rw [h, h1, e]; rfl, fun y hy => ?_⟩
    rcases List.mem_cons.1 hy with rfl | hy
    · exact h2
    · exact k y hy
theorem ints_reps {F : Nat → Prop} {w : World} : ∀ {l : List Int}, (∀ x ∈ l, okI .i64 x) → Reps F w (.int .i64) l (l.map (Value.int .i64))
  | [], _ => rfl
  | x :: l, h => ⟨[.int .i64 x], _, rfl, ⟨rfl, h x List.mem_cons_self⟩, ints_reps fun y hy => h y (List.mem_cons_of_mem _ hy)⟩
theorem good_delAt : Good Tryz.prog 148 sp_delAt := by
  intro E0 cs os0 vs Kc hF hD h16 hO hdis hnof ha hK
  have hI := Inv.enter hF hD h16 hO hdis hnof
  unfold sp_delAt at hK
  split at hK
  case h_2 => exact hK.elim
  rename_i i j l
  obtain ⟨u1, u2, u3, rfl, hu1, hu2, hu3⟩ := three_args ha
  obtain ⟨⟨hD0, rfl⟩, hone⟩ := hu1
  obtain ⟨⟨rfl, _⟩, _⟩ := hu2
  obtain ⟨⟨rfl, _⟩, _⟩ := hu3
  obtain ⟨⟨h0, hij, hjl⟩, hK⟩ := hK
  obtain ⟨⟨xs, k1, k2, k3, k4⟩, _⟩ := hO 0 (by simp)
  obtain ⟨rfl, hls⟩ := reps_ints k2
  obtain ⟨k5, k6⟩ := k1
  rcases k6 with ⟨_, hn⟩ | ⟨g, cap, cur, e, _, hcur, hnc, hcm, hcs, htk⟩
  · omega
  obtain ⟨m, rfl⟩ : ∃ m : Nat, i = m := ⟨i.toNat, by omega⟩
  obtain ⟨n, rfl⟩ : ∃ n : Nat, j = n := ⟨j.toNat, by omega⟩
  simp only [Int.toNat_natCast] at hK
  have hcs : cur.size = cap * 1 := hcs
  have htk : cur.toList.take (l.length * 1) = l.map (Value.int .i64) := htk
  rw [Nat.mul_one] at hcs htk
  have hH : Go.Sort.Holds (Value.int .i64) E0.w g 0 l.toArray := fun t ht => by
    have ht : t < l.length := by simpa using ht
    have hc : t < cur.size := by omega
    have : cur.toList[t]? = some (.int .i64 l[t]) := by
      have := congrArg (fun z => z[t]?) htk
      simp only [List.getElem?_take, if_pos ht, List.getElem?_map, List.getElem?_eq_getElem ht, Option.map_some] at this
      exact this
    refine ⟨?_, by simp [World.frozen?, hcur]⟩
    rw [World.cell?, hcur]
    simp only [Nat.zero_add]
    rw [Array.getElem?_toList] at this
    simp [this, ht]
  have hm : cap ≤ 9223372036854775807 := by unfold maxLen at hcm; omega
  obtain ⟨i0, hi0, hi1, hi2, _⟩ := y2_ok.info
  have hcall := AnyE.slices_Delete dl_lay (Value.int .i64) (fun _ => rfl) (0 : Int) (Tryz.zeroValue2) i0 hi0 hi1 g 0 cap m n l.toArray E0.w hH (by simpa using hnc) hm (by omega) (by simpa using (show n ≤ l.length by omega))
  have hcall : Calls Tryz.prog 148 #[.slice (some ⟨g, 0, none⟩) l.length cap, .int .i64 m, .int .i64 n] E0.w _ := hcall
  rw [← e] at hcall
  refine hcall.mono ?_
  rintro e' w' ⟨rfl, q, rfl⟩
  have hd : ((l.toArray.toList.take m ++ l.toArray.toList.drop n ++ List.replicate (n - m) (0 : Int)).toArray) = (l.take m ++ l.drop n ++ List.replicate (n - m) 0).toArray := rfl
  rw [hd]
  have hsz : (l.take m ++ l.drop n ++ List.replicate (n - m) (0 : Int)).length = l.length := by
    simp only [List.length_append, List.length_take, List.length_drop, List.length_replicate]; omega
  generalize hF' : (l.take m ++ l.drop n ++ List.replicate (n - m) (0 : Int)) = F' at *
  have hll : (l.take m ++ l.drop n).length = l.length - (n - m) := by rw [List.length_append, List.length_take, List.length_drop]; omega
  have hFt : F'.take (l.length - (n - m)) = l.take m ++ l.drop n := by rw [← hF', ← hll, List.take_left]
  have hg : E0.w.grownBy (Go.Sort.putRow (Value.int .i64) (Go.Sort.ahead E0.w q) g 0 F'.toArray) (some g) :=
    ⟨rfl, rfl, rfl, by show E0.w.heap.size ≤ (Array.modify ..).size; simp [Go.Sort.ahead], fun b hb hne => by
      show (Array.modify _ _ _)[b]? = _
      rw [Array.getElem?_modify, if_neg (fun e => hne (by rw [e]))]; rfl⟩
  have hh : (Go.Sort.putRow (Value.int .i64) (Go.Sort.ahead E0.w q) g 0 F'.toArray).heap[g]? = some (.cells (Go.Sort.putCells (Value.int .i64) 0 F'.toArray cur) 2 (0, 0)) := by
    show (Array.modify _ _ _)[g]? = _
    rw [Array.getElem?_modify, if_pos rfl]
    show Option.map _ (E0.w.heap[g]?) = _
    rw [hcur]; rfl
  have htk2 : (Go.Sort.putCells (Value.int .i64) 0 F'.toArray cur).toList.take (l.length - (n - m)) = (l.take m ++ l.drop n).map (Value.int .i64) := by
    have := putC_take F'.toArray cur (by simp only [List.size_toArray]; omega)
    have := congrArg (List.take (l.length - (n - m))) this
    rw [List.take_take, Nat.min_eq_left (by simp only [List.size_toArray]; omega), ← List.map_take] at this
    rw [this]
    simp only [hFt]
  have hrr : ∀ x ∈ l.take m ++ l.drop n, okI .i64 x := fun x hx => hls x ((List.mem_append.1 hx).elim List.mem_of_mem_take List.mem_of_mem_drop)
  have hsz2 : l.toArray.size - (n - m) = (l.take m ++ l.drop n).length := by rw [hll]; simp
  rw [hsz2]
  rw [← hll] at htk2
  generalize l.take m ++ l.drop n = R at *
  obtain ⟨E', m1, m2, m3, m4, m5⟩ := hI.move (i := 0) (d := 1) (w' := Go.Sort.putRow (Value.int .i64) (Go.Sort.ahead E0.w q) g 0 F'.toArray) (o := .row 2 (.int .i64) l) rfl rfl rfl (fun h => by have := (hD 1).1 h; simp at this) hg (fun b hb => by
      rw [k4, e]; rw [← Option.some.inj hb]; rfl) (.slice (some ⟨g, 0, none⟩) R.length cap) (fun b => blkOf (.slice (some ⟨g, 0, none⟩) R.length cap) = some b) (fun _ => undef) (rwi R) (fun b hb => .inl (by
      rw [k4, e]; exact hb)) (fun E' hle hw' => ⟨R.map (Value.int .i64), ⟨by rw [List.length_map]; show _ = _ * 1; omega, .inr ⟨g, cap, _, rfl, Nat.zero_le _, by rw [hw']; exact hh, by omega, hcm, by show (Array.mapIdx _ _).size = _; rw [Array.size_mapIdx, hcs]; exact (Nat.mul_one cap).symm, by show List.take (R.length * 1) _ = _; rw [Nat.mul_one]; exact htk2⟩⟩, ints_reps hrr, by omega, fun _ => Iff.rfl⟩)
  exact ⟨_, _, _, E', rfl, hK, by simp, m1, m3.congr (fun j => by
    simp only [numb]
    by_cases e0 : 0 = j
    · subst e0; rfl
    · by_cases e1 : 1 = j
      · subst e1; rfl
      · simp only [lk_ne _ _ e0, lk_ne _ _ e1]), ⟨⟨m4, m5.symm⟩, rfl⟩⟩
def c_delAt : Ctr Tryz.prog := ⟨148, ent Tryz.func148 rfl rfl, [true], sp_delAt, good_delAt, []⟩
@[go_sem] theorem c_delAt_f : c_delAt.f = 148 := rfl
@[go_sem] theorem c_delAt_ms : c_delAt.ms = [true] := rfl
@[go_sem] theorem c_delAt_sp : c_delAt.spec = sp_delAt := rfl
@[go_sem] theorem c_delAt_fz : c_delAt.fz = [] := rfl
attribute [go_sem] sp_delAt
end Go.Proofs.YthfmlelodmcgkaaGreat.V
end
section
namespace Go.Proofs.YthfmlelodmcgkaaGreat.V
open Go
def sp_clip : List Cv → List Obj' → Tree
  | [.one (.ro (.int .i64) l)], [] => .ret (.val (.one (.clip (.int .i64) l))) []
  | _, _ => .fail
set_option maxHeartbeats 4000000 in
set_option maxRecDepth 100000 in
theorem good_clip : Good Tryz.prog 147 sp_clip := by
  refine good_ofF Tryz.func147 rfl _ rfl _ rfl (tab []) (fun X cs os0 K hok hos hK => ?_)
  clear hos; unfold sp_clip at hK
  split at hK
  case h_2 => exact hK.elim
  rename_i l
  refine ⟨by simp, by simp, ?_⟩
  simp only [go_sem] at hK hok
  simp (maxSteps := 4000000) only [go_sem, Tryz.f147, ↓brB_t, ↓brB_f, Nat.reduceAdd, Int.reduceLE, Int.reduceLT, Int.reduceNeg, decide_true, decide_false, Bool.and_self, Nat.succ_eq_add_one, Int.toNat_natCast, Nat.beq_refl, Bool.and_true, Bool.true_and, Bool.false_or, Bool.or_true, List.all_cons, List.all_nil, Nat.reduceMul, Nat.add_zero, Nat.zero_add, List.length_nil, List.length_cons, dite_true, List.nil_append, Nat.reduceBEq, reduceDIte, reduceIte, reduceCtorEq, Bool.or_false, Bool.true_or, Bool.and_false, Bool.false_and, Bool.not_true, Bool.not_false, Option.isSome_some, Option.isSome_none, Option.getD_some, List.getElem?_cons_zero, List.getElem?_cons_succ, eq_self, and_self, List.take_succ_cons, List.take_zero, List.drop_succ_cons, List.drop_zero]
  clear hok
  exact ⟨trivial, ret0 hK⟩
def c_clip : Ctr Tryz.prog := ⟨147, ent Tryz.func147 rfl rfl, [], sp_clip, good_clip, []⟩
@[go_sem] theorem c_clip_f : c_clip.f = 147 := rfl
@[go_sem] theorem c_clip_ms : c_clip.ms = [] := rfl
@[go_sem] theorem c_clip_sp : c_clip.spec = sp_clip := rfl
@[go_sem] theorem c_clip_fz : c_clip.fz = [] := rfl
attribute [go_sem] sp_clip
theorem onesF_mono (n : Int) (N d : Nat) (w : List Int) (M : Nat) {k l : Nat} (h : k ≤ l) : (onesF N d w M k).length ≤ (onesF N d w M l).length := by
  unfold onesF
  have e : (onesL w M).take l = (onesL w M).take k ++ ((onesL w M).take l).drop k := by
    conv => lhs; rw [← List.take_append_drop k ((onesL w M).take l), List.take_take, Nat.min_eq_left h]
  rw [e, List.flatMap_append, List.length_append]; omega
def sp_more (d : Nat) : List Cv → List Obj' → Tree
  | [.one (.ro (.int .i64) w), .one (.ro (.int .i64) left), .one (.v (.int .i64 m)), .one (.ptr 0 0), .one (.ptr 1 0), .one (.ptr 2 0)], [.box 3 [.v (.int .i64 n)], .box 44 [.own 3], .box 107 [.fn 146 [0, 1, 2]], .drow 26 (.sl 2 (.int .i64)) L] =>
    .need ((0 ≤ m ∧ m ≤ n ∧ n ≤ 5) ∧ ((w : List Int).length : Int) + (d : Nat) = 2 * n ∧ begB w m.toNat ∧ (left : List Int) = onesL w m.toNat ∧ (L : RowL).length + (fillL n.toNat d w m.toNat).length ≤ 100000000)
      (.ret (.tup []) [.box 3 [.v (.int .i64 n)], .box 44 [.own 4], .box 107 [.fn 146 [0, 1, 2]], .dead, .drow 26 (.sl 2 (.int .i64)) ((L : RowL) ++ fillL n.toNat d w m.toNat)])
  | _, _ => .fail
set_option maxHeartbeats 4000000 in
set_option maxRecDepth 100000 in
theorem good_more0 : Good Tryz.prog 146 (sp_more 0) := by
  refine good_ofF Tryz.func146 rfl _ rfl _ rfl (tab [c_clone]) (fun X cs os0 K hok hos hK => ?_)
  unfold sp_more at hK
  split at hK
  case h_2 => exact hK.elim
  rename_i w left m n L
  refine ⟨by simp, by simp, ?_⟩
  simp only [go_sem] at hK hok hos
  simp (maxSteps := 4000000) only [go_sem, Tryz.f146, ↓brB_t, ↓brB_f, Nat.reduceAdd, Int.reduceLE, Int.reduceLT, Int.reduceNeg, decide_true, decide_false, Bool.and_self, Nat.succ_eq_add_one, Int.toNat_natCast, Nat.beq_refl, Bool.and_true, Bool.true_and, Bool.false_or, Bool.or_true, List.all_cons, List.all_nil, Nat.reduceMul, Nat.add_zero, Nat.zero_add, List.length_nil, List.length_cons, dite_true, List.nil_append, Nat.reduceBEq, reduceDIte, reduceIte, reduceCtorEq, Bool.or_false, Bool.true_or, Bool.and_false, Bool.false_and, Bool.not_true, Bool.not_false, Option.isSome_some, Option.isSome_none, Option.getD_some, List.getElem?_cons_zero, List.getElem?_cons_succ, eq_self, and_self, List.take_succ_cons, List.take_zero, List.drop_succ_cons, List.drop_zero]
  obtain ⟨⟨⟨h0, hm, hn⟩, hl, hb, rfl, hL⟩, hK⟩ := hK
  clear hok hos
  refine brB_intro (fun h1 => ?_) (fun h1 => ?_)
  · exact ⟨by omega, by show L.length + 1 ≤ _; omega, by kernel_rfl, retN [0, 1, 2, 3, 336] rfl hK⟩
  · have h1 := of_decide_eq_false h1
    rw [w64_id (by omega) (by omega)] at h1
    omega
def c_more (d : Nat) (ih : Good Tryz.prog 146 (sp_more d)) : Ctr Tryz.prog := ⟨146, ent Tryz.func146 rfl rfl, [false, false, false, true, true, true], sp_more d, ih, []⟩
@[go_sem] theorem c_more_f (d : Nat) (ih : Good Tryz.prog 146 (sp_more d)) : (c_more d ih).f = 146 := rfl
@[go_sem] theorem c_more_ms (d : Nat) (ih : Good Tryz.prog 146 (sp_more d)) : (c_more d ih).ms = [false, false, false, true, true, true] := rfl
@[go_sem] theorem c_more_s (d : Nat) (ih : Good Tryz.prog 146 (sp_more d)) : (c_more d ih).spec = sp_more d := rfl
@[go_sem] theorem c_more_fz (d : Nat) (ih : Good Tryz.prog 146 (sp_more d)) : (c_more d ih).fz = [] := rfl
attribute [go_sem] sp_more
set_option maxHeartbeats 4000000 in
set_option maxRecDepth 100000 in
theorem good_moreS (d : Nat) (ih : Good Tryz.prog 146 (sp_more d)) : Good Tryz.prog 146 (sp_more (d + 1)) := by
  refine good_ofF Tryz.func146 rfl _ rfl _ rfl (tab [c_clone, c_clip, c_delAt, c_more d ih]) (fun X cs os0 K hok hos hK => ?_)
  unfold sp_more at hK
  split at hK
  case h_2 => exact hK.elim
  rename_i w left m n L
  refine ⟨by simp, by simp, ?_⟩
  simp only [go_sem] at hK hok hos
  simp (maxSteps := 4000000) only [go_sem, Tryz.f146, ↓brB_t, ↓brB_f, Nat.reduceAdd, Int.reduceLE, Int.reduceLT, Int.reduceNeg, decide_true, decide_false, Bool.and_self, Nat.succ_eq_add_one, Int.toNat_natCast, Nat.beq_refl, Bool.and_true, Bool.true_and, Bool.false_or, Bool.or_true, List.all_cons, List.all_nil, Nat.reduceMul, Nat.add_zero, Nat.zero_add, List.length_nil, List.length_cons, dite_true, List.nil_append, Nat.reduceBEq, reduceDIte, reduceIte, reduceCtorEq, Bool.or_false, Bool.true_or, Bool.and_false, Bool.false_and, Bool.not_true, Bool.not_false, Option.isSome_some, Option.isSome_none, Option.getD_some, List.getElem?_cons_zero, List.getElem?_cons_succ, eq_self, and_self, List.take_succ_cons, List.take_zero, List.drop_succ_cons, List.drop_zero]
  obtain ⟨⟨⟨h0, hm, hn⟩, hl, hb, rfl, hL⟩, hK⟩ := hK
  clear hok hos
  refine brB_intro (fun h1 => ?_) (fun h1 => ?_)
  · have h1 := of_decide_eq_true h1
    rw [w64_id (by omega) (by omega)] at h1
    omega
  clear h1
  obtain ⟨M, rfl⟩ : ∃ M : Nat, m = M := ⟨m.toNat, by omega⟩
  obtain ⟨N, rfl⟩ : ∃ N : Nat, n = N := ⟨n.toNat, by omega⟩
  simp only [Int.toNat_natCast] at hK hL hb ⊢
  have hge : ∀ k, (onesF N d w M k).length ≤ (fillL N (d + 1) w M).length := fun k => by
    rw [fill_ones hb (by omega), List.length_append]
    refine Nat.le_trans ?_ (Nat.le_add_right _ _)
    rcases Nat.lt_or_ge k (onesL w M).length with h | h
    · exact onesF_mono 0 N d w M (Nat.le_of_lt h)
    · unfold onesF; rw [List.take_of_length_le h, List.take_length]; exact Nat.le_refl _
  refine holds_sub (sub_move (i := 3) (j := 16) (c := 1) (o := .drow 26 kR L) rfl rfl rfl (by decide) rfl rfl) ?_
  refine loop_okF (T := tab [c_clone, c_clip, c_delAt, c_more d ih]) [0, 1, 2, 3, 4, 5, 21, 22, 23] [(0, 0), (1, 1), (2, 2), (3, 3), (16, 16)] (fun k : Nat => ⟨60, [(0, ri w), (1, ri (onesL w M)), (2, vi M), (3, .val (.one (.ptr 0 0))), (4, .val (.one (.ptr 1 0))), (5, .val (.one (.ptr 2 0))), (21, ri (onesL w M)), (22, vi (onesL w M).length), (23, vi k)],
      [(0, .box 3 [.v (.int .i64 N)]), (1, .box 44 [.own 16]), (2, .box 107 [.fn 146 [0, 1, 2]]), (3, .dead), (16, .drow 26 kR (L ++ onesF N d w M k))]⟩)
    (fun k => k ≤ (onesL w M).length) (fun k => (onesL w M).length - k) 0 rfl (by rw [show onesF N d w M 0 = [] from rfl, List.append_nil]; rfl) (Nat.zero_le _) (fun k hk => ?_)
  simp (maxSteps := 4000000) only [go_sem, ↓brB_t, ↓brB_f, Nat.reduceAdd, Int.reduceLE, Int.reduceLT, Int.reduceNeg, decide_true, decide_false, Bool.and_self, Nat.succ_eq_add_one, Int.toNat_natCast, Nat.beq_refl, Bool.and_true, Bool.true_and, Bool.false_or, Bool.or_true, List.all_cons, List.all_nil, Nat.reduceMul, Nat.add_zero, Nat.zero_add, List.length_nil, List.length_cons, dite_true, List.nil_append, Nat.reduceBEq, reduceDIte, reduceIte, reduceCtorEq, Bool.or_false, Bool.true_or, Bool.and_false, Bool.false_and, Bool.not_true, Bool.not_false, Option.isSome_some, Option.isSome_none, Option.getD_some, List.getElem?_cons_zero, List.getElem?_cons_succ, eq_self, and_self, List.take_succ_cons, List.take_zero, List.drop_succ_cons, List.drop_zero]
  have hgk := hge k
  have hll := onesL_len w M
  refine brB_intro (fun h1 => ?_) (fun h1 => ?_)
  · have h1 := of_decide_eq_true h1
    have hk1 : k < (onesL w M).length := by omega
    have hw1 : w64 ((k : Int) + 1) = ((k + 1 : Nat) : Int) := w64_id (by omega) (by omega)
    obtain ⟨x, hx, hxM, hxc⟩ := onesL_mem (List.getElem_mem hk1)
    have hg : (onesL w M).getD k 0 = (onesL w M)[k] := getD_eq hk1
    have hle := onesL_old hk1
    have hfs := onesF_s (n := N) (d := d) hk1
    have hgs := hge (k + 1)
    have hbo : begB (w ++ [(onesL w M)[k]]) M := by rw [hx]; exact begB_old hb hxM hxc
    have hla : (w ++ [(onesL w M)[k]]).length = w.length + 1 := by rw [List.length_append]; rfl
    rw [hw1, hg, Int.toNat_natCast]
    generalize (onesL w M)[k] = y at *
    rw [hfs, List.length_append] at hgs
    have hlo : (L ++ onesF N d w M k).length = L.length + (onesF N d w M k).length := List.length_append
    have hter : (onesL w M).take k ++ (onesL w M).drop (k + 1) = onesL (w ++ [y]) M := by rw [hle, List.eraseIdx_eq_take_drop_succ]
    refine ⟨⟨by omega, by omega⟩, ⟨Nat.le_refl 1, by omega⟩, by omega, ⟨by omega, by omega, by omega⟩, ⟨⟨by omega, by omega, by omega⟩, by omega, hbo, hter, by rw [hlo]; omega⟩, by kernel_rfl, k + 1, [(0, 0), (1, 1), (2, 2), (3, 3), (16, 672)], by omega, by omega, rfl, ?_⟩
    rw [hfs, ← List.append_assoc]; rfl
  · have h1 := of_decide_eq_false h1
    have e : k = (onesL w M).length := by omega
    subst e
    have hfo := fill_ones (n := N) (d := d) hb (by omega)
    have hlo : (L ++ onesF N d w M (onesL w M).length).length = L.length + (onesF N d w M (onesL w M).length).length := List.length_append
    refine brB_intro (fun h2 => ?_) (fun h2 => ?_)
    · have h2 := of_decide_eq_true h2
      have hM1 : w64 ((M : Int) + 1) = ((M + 1 : Nat) : Int) := w64_id (by omega) (by omega)
      have hla : (w ++ [(M : Int)]).length = w.length + 1 := by rw [List.length_append]; rfl
      rw [if_pos (by omega)] at hfo
      rw [hfo, List.length_append] at hL
      rw [hfo, ← List.append_assoc] at hK
      rw [hM1, Int.toNat_natCast]
      exact ⟨⟨Nat.le_refl 1, by omega⟩, ⟨Nat.le_refl 1, by omega⟩, ⟨⟨by omega, by omega, hn⟩, by omega, begB_new hb, (onesL_new hb).symm, by rw [hlo]; omega⟩, by kernel_rfl, retN [0, 1, 2, 3, 960] rfl hK⟩
    · have h2 := of_decide_eq_false h2
      rw [if_neg (by omega), List.append_nil] at hfo
      rw [hfo] at hK
      exact retN [0, 1, 2, 3, 16] rfl hK
theorem good_more : ∀ d, Good Tryz.prog 146 (sp_more d)
  | 0 => good_more0
  | d + 1 => good_moreS d (good_more d)
def sp_moreN (N : Nat) : List Cv → List Obj' → Tree
  | [.one (.v (.slice none 0 0)), .one (.v (.slice none 0 0)), .one (.v (.int .i64 m)), .one (.ptr 0 0), .one (.ptr 1 0), .one (.ptr 2 0)], [.box 3 [.v (.int .i64 n)], .box 44 [.own 3], .box 107 [.fn 146 [0, 1, 2]], .drow 26 (.sl 2 (.int .i64)) L] =>
    .need (m = 0 ∧ n = (N : Nat) ∧ N ≤ 5 ∧ (L : RowL) = [])
      (.ret (.tup []) [.box 3 [.v (.int .i64 n)], .box 44 [.own 4], .box 107 [.fn 146 [0, 1, 2]], .dead, .drow 26 (.sl 2 (.int .i64)) (allL N)])
  | _, _ => .fail
theorem allL_len {N : Nat} (h : N ≤ 5) : (allL N).length ≤ 9765625 :=
  Nat.le_trans (fillL_len N (2 * N) [] 0) (Nat.le_trans (Nat.pow_le_pow_left h _) (Nat.le_trans (Nat.pow_le_pow_right (by omega) (show 2 * N ≤ 10 by omega)) (by decide)))
theorem good_moreN (N : Nat) : Good Tryz.prog 146 (sp_moreN N) := good_nil (.int .i64) (good_more (2 * N)) fun cs os K h => by
  unfold sp_moreN at h
  split at h
  case h_2 => exact h.elim
  obtain ⟨⟨rfl, rfl, hN, rfl⟩, h⟩ := h
  have := allL_len hN
  refine ⟨⟨⟨Int.le_refl 0, by omega, by omega⟩, by show ((([] : List Int).length : Nat) : Int) + ((2 * N : Nat) : Int) = 2 * N; simp, begB_nil, rfl, ?_⟩, ?_⟩
  · show ([] : RowL).length + (fillL ((N : Nat) : Int).toNat (2 * N) [] 0).length ≤ _
    rw [Int.toNat_natCast]
    show 0 + (allL N).length ≤ _
    omega
  · show K _ [_, _, _, _, .drow _ _ ([] ++ fillL ((N : Nat) : Int).toNat (2 * N) [] 0)]
    rw [Int.toNat_natCast, List.nil_append]
    exact h
def c_moreN (N : Nat) : Ctr Tryz.prog := ⟨146, ent Tryz.func146 rfl rfl, [false, false, false, true, true, true], sp_moreN N, good_moreN N, []⟩
@[go_sem] theorem c_moreN_f (N : Nat) : (c_moreN N).f = 146 := rfl
@[go_sem] theorem c_moreN_ms (N : Nat) : (c_moreN N).ms = [false, false, false, true, true, true] := rfl
@[go_sem] theorem c_moreN_s (N : Nat) : (c_moreN N).spec = sp_moreN N := rfl
@[go_sem] theorem c_moreN_fz (N : Nat) : (c_moreN N).fz = [] := rfl
attribute [go_sem] sp_moreN
def sp_wordsN (N : Nat) : List Cv → List Obj' → Tree
  | [.one (.v (.int .i64 n))], [] => .need (n = (N : Nat) ∧ N ≤ 5) (.ret (ow 0) [.drow 26 (.sl 2 (.int .i64)) (allL N)])
  | _, _ => .fail
set_option maxHeartbeats 4000000 in
set_option maxRecDepth 100000 in
theorem good_wordsN (N : Nat) : Good Tryz.prog 105 (sp_wordsN N) := by
  refine good_ofF Tryz.func105 rfl _ rfl _ rfl (tab [c_moreN N]) (fun X cs os0 K hok hos hK => ?_)
  clear hos; unfold sp_wordsN at hK
  split at hK
  case h_2 => exact hK.elim
  rename_i n
  refine ⟨by simp, by simp, ?_⟩
  simp only [go_sem] at hK hok
  simp (maxSteps := 4000000) only [go_sem, Tryz.f105, ↓brB_t, ↓brB_f, Nat.reduceAdd, Int.reduceLE, Int.reduceLT, Int.reduceNeg, decide_true, decide_false, Bool.and_self, Nat.succ_eq_add_one, Int.toNat_natCast, Nat.beq_refl, Bool.and_true, Bool.true_and, Bool.false_or, Bool.or_true, List.all_cons, List.all_nil, Nat.reduceMul, Nat.add_zero, Nat.zero_add, List.length_nil, List.length_cons, dite_true, List.nil_append, Nat.reduceBEq, reduceDIte, reduceIte, reduceCtorEq, Bool.or_false, Bool.true_or, Bool.and_false, Bool.false_and, Bool.not_true, Bool.not_false, Option.isSome_some, Option.isSome_none, Option.getD_some, List.getElem?_cons_zero, List.getElem?_cons_succ, eq_self, and_self, List.take_succ_cons, List.take_zero, List.drop_succ_cons, List.drop_zero]
  obtain ⟨⟨rfl, hN⟩, hK⟩ := hK
  clear hok
  exact ⟨⟨trivial, rfl, hN, trivial⟩, retN [144] rfl hK⟩
def sp_words : List Cv → List Obj' → Tree
  | [.one (.v (.int .i64 n))], [] => .need (0 ≤ n ∧ n ≤ 5) (.ret (ow 0) [.drow 26 (.sl 2 (.int .i64)) (allL n.toNat)])
  | _, _ => .fail
theorem good_words : Good Tryz.prog 105 sp_words := good_ex good_wordsN fun cs os K h => by
  unfold sp_words at h
  split at h
  case h_2 => exact h.elim
  rename_i n
  obtain ⟨⟨h0, h5⟩, h⟩ := h
  exact ⟨n.toNat, ⟨by omega, by omega⟩, h⟩
def c_words : Ctr Tryz.prog := ⟨105, ent Tryz.func105 rfl rfl, [], sp_words, good_words, []⟩
@[go_sem] theorem c_words_f : c_words.f = 105 := rfl
@[go_sem] theorem c_words_ms : c_words.ms = [] := rfl
@[go_sem] theorem c_words_sp : c_words.spec = sp_words := rfl
@[go_sem] theorem c_words_fz : c_words.fz = [] := rfl
attribute [go_sem] sp_words
end Go.Proofs.YthfmlelodmcgkaaGreat.V
end
section
namespace Go.Proofs.YthfmlelodmcgkaaGreat.V
open Go
def lexLt : List Int → List Int → Bool
  | x :: a, y :: b => if x = y then lexLt a b else decide (x < y)
  | _, _ => false
def beforeB (a b : List Int) : Bool := if a.length = b.length then lexLt a b else decide (a.length < b.length)
def sp_before : List Cv → List Obj' → Tree
  | [.one (.ro (.int .i64) a), .one (.ro (.int .i64) b)], [] => .ret (vb (beforeB a b)) []
  | _, _ => .fail
theorem lexLt_s {a b : List Int} {i : Nat} (h : i < a.length) (hb : i < b.length) : lexLt (a.drop i) (b.drop i) = if a.getD i 0 = b.getD i 0 then lexLt (a.drop (i + 1)) (b.drop (i + 1)) else decide (a.getD i 0 < b.getD i 0) := by
  rw [List.drop_eq_getElem_cons h, List.drop_eq_getElem_cons hb, lexLt, getD_eq h, getD_eq hb]
set_option maxHeartbeats 4000000 in
set_option maxRecDepth 100000 in
theorem good_l01Before : Good Tryz.prog 127 sp_before := by
  refine good_ofF Tryz.func127 rfl _ rfl _ rfl (tab []) (fun X cs os0 K hok hos hK => ?_)
  clear hos; unfold sp_before at hK
  split at hK
  case h_2 => exact hK.elim
  rename_i a b
  refine ⟨by simp, by simp, ?_⟩
  simp only [go_sem] at hK hok
  simp (maxSteps := 4000000) only [go_sem, Tryz.f127, ↓brB_t, ↓brB_f, Nat.reduceAdd, Int.reduceLE, Int.reduceLT, Int.reduceNeg, decide_true, decide_false, Bool.and_self, Nat.succ_eq_add_one, Int.toNat_natCast, Nat.beq_refl, Bool.and_true, Bool.true_and, Bool.false_or, Bool.or_true, List.all_cons, List.all_nil, Nat.reduceMul, Nat.add_zero, Nat.zero_add, List.length_nil, List.length_cons, dite_true, List.nil_append, Nat.reduceBEq, reduceDIte, reduceIte, reduceCtorEq, Bool.or_false, Bool.true_or, Bool.and_false, Bool.false_and, Bool.not_true, Bool.not_false, Option.isSome_some, Option.isSome_none, Option.getD_some, List.getElem?_cons_zero, List.getElem?_cons_succ, eq_self, and_self, List.take_succ_cons, List.take_zero, List.drop_succ_cons, List.drop_zero]
  have hl := len_i hok.1.1
  clear hok
  refine brB_intro (fun h => ret0 ?_) (fun h => ?_)
  · have h := of_decide_eq_false (nb h)
    have e : decide ((a.length : Int) < b.length) = decide (a.length < b.length) := by simp
    rw [beforeB, if_neg (by omega)] at hK
    rw [e]; exact hK
  · have h := of_decide_eq_true (nb' h)
    rw [beforeB, if_pos (by omega)] at hK
    refine loop_okF (T := tab []) [0, 1, 5] [] (fun i : Nat => ⟨40, [(0, ri a), (1, ri b), (5, vi i)], []⟩)
      (fun i => i ≤ a.length ∧ lexLt a b = lexLt (a.drop i) (b.drop i)) (fun i => a.length - i) 0 rfl rfl ⟨Nat.zero_le _, rfl⟩ (fun i hi => ?_)
    obtain ⟨hi, hm⟩ := hi
    simp only [go_sem, ↓brB_t, ↓brB_f, Nat.reduceAdd, Int.reduceLE, Int.reduceLT, Int.reduceNeg, decide_true, decide_false, Bool.and_self, Nat.succ_eq_add_one, Int.toNat_natCast, Nat.beq_refl, Bool.and_true, Bool.true_and, Bool.false_or, Bool.or_true, List.all_cons, List.all_nil, Nat.reduceMul, Nat.add_zero, Nat.zero_add, List.length_nil, List.length_cons, dite_true, List.nil_append, Nat.reduceBEq, reduceDIte, reduceIte, reduceCtorEq, Bool.or_false, Bool.true_or, Bool.and_false, Bool.false_and, Bool.not_true, Bool.not_false, Option.isSome_some, Option.isSome_none, Option.getD_some, List.getElem?_cons_zero, List.getElem?_cons_succ, eq_self, and_self, List.take_succ_cons, List.take_zero, List.drop_succ_cons, List.drop_zero]
    refine brB_intro (fun h1 => ?_) (fun h1 => ret0 ?_)
    · have h1 := of_decide_eq_true h1
      have hs := lexLt_s (a := a) (b := b) (i := i) (by omega) (by omega)
      have hw : w64 ((i : Int) + 1) = ((i + 1 : Nat) : Int) := w64_s (n := a.length) (by omega) hl
      refine ⟨⟨by omega, by omega⟩, ⟨by omega, by omega⟩, by kernel_rfl, brB_intro (fun h2 => ⟨⟨by omega, by omega⟩, ⟨by omega, by omega⟩, by kernel_rfl, ret0 ?_⟩) (fun h2 => ⟨i + 1, [], ⟨by omega, ?_⟩, by omega, rfl, by rw [hw]; rfl⟩)⟩
      · have h2 := of_decide_eq_false (nb h2)
        rw [if_neg h2] at hs
        rw [hm, hs] at hK; exact hK
      · have h2 := of_decide_eq_true (nb' h2)
        rw [if_pos h2] at hs
        rw [hm, hs]
    · have h1 := of_decide_eq_false h1
      have e : lexLt (a.drop i) (b.drop i) = false := by rw [List.drop_eq_nil_of_le (by omega)]; rfl
      rw [hm, e] at hK; exact hK
def c_l01Before : Ctr Tryz.prog := ⟨127, ent Tryz.func127 rfl rfl, [], sp_before, good_l01Before, []⟩
@[go_sem] theorem c_l01Before_f : c_l01Before.f = 127 := rfl
@[go_sem] theorem c_l01Before_ms : c_l01Before.ms = [] := rfl
@[go_sem] theorem c_l01Before_sp : c_l01Before.spec = sp_before := rfl
@[go_sem] theorem c_l01Before_fz : c_l01Before.fz = [] := rfl
attribute [go_sem] sp_before
def sp_nan : List Cv → List Obj' → Tree
  | [.one (.v (.int .i64 x))], [] => .ret (vb false) []
  | _, _ => .fail
set_option maxHeartbeats 4000000 in
set_option maxRecDepth 100000 in
theorem good_nan64 : Good Tryz.prog 184 sp_nan := by
  refine good_ofF Tryz.func184 rfl _ rfl _ rfl (tab []) (fun X cs os0 K hok hos hK => ?_)
  clear hos; unfold sp_nan at hK
  split at hK
  case h_2 => exact hK.elim
  rename_i x
  refine ⟨by simp, by simp, ?_⟩
  simp only [go_sem] at hK hok
  simp (maxSteps := 4000000) only [go_sem, Tryz.f184, ↓brB_t, ↓brB_f, Nat.reduceAdd, Int.reduceLE, Int.reduceLT, Int.reduceNeg, decide_true, decide_false, Bool.and_self, Nat.succ_eq_add_one, Int.toNat_natCast, Nat.beq_refl, Bool.and_true, Bool.true_and, Bool.false_or, Bool.or_true, List.all_cons, List.all_nil, Nat.reduceMul, Nat.add_zero, Nat.zero_add, List.length_nil, List.length_cons, dite_true, List.nil_append, Nat.reduceBEq, reduceDIte, reduceIte, reduceCtorEq, Bool.or_false, Bool.true_or, Bool.and_false, Bool.false_and, Bool.not_true, Bool.not_false, Option.isSome_some, Option.isSome_none, Option.getD_some, List.getElem?_cons_zero, List.getElem?_cons_succ, eq_self, and_self, List.take_succ_cons, List.take_zero, List.drop_succ_cons, List.drop_zero]
  exact ret0 hK
def c_nan64 : Ctr Tryz.prog := ⟨184, ent Tryz.func184 rfl rfl, [], sp_nan, good_nan64, []⟩
@[go_sem] theorem c_nan64_f : c_nan64.f = 184 := rfl
@[go_sem] theorem c_nan64_ms : c_nan64.ms = [] := rfl
@[go_sem] theorem c_nan64_sp : c_nan64.spec = sp_nan := rfl
@[go_sem] theorem c_nan64_fz : c_nan64.fz = [] := rfl
attribute [go_sem] sp_nan
def cmpI (x y : Int) : Int := if x < y then -1 else if y < x then 1 else 0
def sp_cmp : List Cv → List Obj' → Tree
  | [.one (.v (.int .i64 x)), .one (.v (.int .i64 y))], [] => .ret (vi (cmpI x y)) []
  | _, _ => .fail
set_option maxHeartbeats 4000000 in
set_option maxRecDepth 100000 in
theorem good_cmp64 : Good Tryz.prog 165 sp_cmp := by
  refine good_ofF Tryz.func165 rfl _ rfl _ rfl (tab [c_nan64]) (fun X cs os0 K hok hos hK => ?_)
  clear hos; unfold sp_cmp at hK
  split at hK
  case h_2 => exact hK.elim
  rename_i x y
  refine ⟨by simp, by simp, ?_⟩
  simp only [go_sem] at hK hok
  simp (maxSteps := 4000000) only [go_sem, Tryz.f165, ↓brB_t, ↓brB_f, Nat.reduceAdd, Int.reduceLE, Int.reduceLT, Int.reduceNeg, decide_true, decide_false, Bool.and_self, Nat.succ_eq_add_one, Int.toNat_natCast, Nat.beq_refl, Bool.and_true, Bool.true_and, Bool.false_or, Bool.or_true, List.all_cons, List.all_nil, Nat.reduceMul, Nat.add_zero, Nat.zero_add, List.length_nil, List.length_cons, dite_true, List.nil_append, Nat.reduceBEq, reduceDIte, reduceIte, reduceCtorEq, Bool.or_false, Bool.true_or, Bool.and_false, Bool.false_and, Bool.not_true, Bool.not_false, Option.isSome_some, Option.isSome_none, Option.getD_some, List.getElem?_cons_zero, List.getElem?_cons_succ, eq_self, and_self, List.take_succ_cons, List.take_zero, List.drop_succ_cons, List.drop_zero]
  clear hok
  refine brB_intro (fun h => ret0 ?_) (fun h => brB_intro (fun h2 => ret0 ?_) (fun h2 => ret0 ?_))
  · rw [cmpI, if_pos (of_decide_eq_true h)] at hK; exact hK
  · rw [cmpI, if_neg (of_decide_eq_false h), if_pos (of_decide_eq_true h2)] at hK; exact hK
  · rw [cmpI, if_neg (of_decide_eq_false h), if_neg (of_decide_eq_false h2)] at hK; exact hK
def c_cmp64 : Ctr Tryz.prog := ⟨165, ent Tryz.func165 rfl rfl, [], sp_cmp, good_cmp64, []⟩
@[go_sem] theorem c_cmp64_f : c_cmp64.f = 165 := rfl
@[go_sem] theorem c_cmp64_ms : c_cmp64.ms = [] := rfl
@[go_sem] theorem c_cmp64_sp : c_cmp64.spec = sp_cmp := rfl
@[go_sem] theorem c_cmp64_fz : c_cmp64.fz = [] := rfl
attribute [go_sem] sp_cmp
def cmpL : List Int → List Int → Int
  | [], [] => 0
  | [], _ :: _ => -1
  | _ :: _, [] => 1
  | x :: a, y :: b => if cmpI x y = 0 then cmpL a b else cmpI x y
def sp_cmpS : List Cv → List Obj' → Tree
  | [.one (.ro (.int .i64) a), .one (.ro (.int .i64) b)], [] => .ret (vi (cmpL a b)) []
  | _, _ => .fail
theorem cmpL_s {a b : List Int} {i : Nat} (h : i < a.length) (hb : i < b.length) : cmpL (a.drop i) (b.drop i) = if cmpI (a.getD i 0) (b.getD i 0) = 0 then cmpL (a.drop (i + 1)) (b.drop (i + 1)) else cmpI (a.getD i 0) (b.getD i 0) := by
  rw [List.drop_eq_getElem_cons h, List.drop_eq_getElem_cons hb, cmpL, getD_eq h, getD_eq hb]
theorem cmpL_e {a b : List Int} {i : Nat} (h : i < a.length) (hb : ¬ i < b.length) : cmpL (a.drop i) (b.drop i) = 1 := by
  have e : b.drop i = [] := List.drop_eq_nil_of_le (by omega)
  rw [List.drop_eq_getElem_cons h, e, cmpL]
theorem cmpL_0 {a b : List Int} {i : Nat} (h : ¬ i < a.length) : cmpL (a.drop i) (b.drop i) = if i < b.length then -1 else 0 := by
  rw [List.drop_eq_nil_of_le (by omega)]
  split
  · rename_i hb
    rw [List.drop_eq_getElem_cons hb, cmpL]
  · rw [List.drop_eq_nil_of_le (by omega), cmpL]
set_option maxHeartbeats 4000000 in
set_option maxRecDepth 100000 in
theorem good_cmpS : Good Tryz.prog 141 sp_cmpS := by
  refine good_ofF Tryz.func141 rfl _ rfl _ rfl (tab [c_cmp64]) (fun X cs os0 K hok hos hK => ?_)
  clear hos; unfold sp_cmpS at hK
  split at hK
  case h_2 => exact hK.elim
  rename_i a b
  refine ⟨by simp, by simp, ?_⟩
  simp only [go_sem] at hK hok
  simp (maxSteps := 4000000) only [go_sem, Tryz.f141, ↓brB_t, ↓brB_f, Nat.reduceAdd, Int.reduceLE, Int.reduceLT, Int.reduceNeg, decide_true, decide_false, Bool.and_self, Nat.succ_eq_add_one, Int.toNat_natCast, Nat.beq_refl, Bool.and_true, Bool.true_and, Bool.false_or, Bool.or_true, List.all_cons, List.all_nil, Nat.reduceMul, Nat.add_zero, Nat.zero_add, List.length_nil, List.length_cons, dite_true, List.nil_append, Nat.reduceBEq, reduceDIte, reduceIte, reduceCtorEq, Bool.or_false, Bool.true_or, Bool.and_false, Bool.false_and, Bool.not_true, Bool.not_false, Option.isSome_some, Option.isSome_none, Option.getD_some, List.getElem?_cons_zero, List.getElem?_cons_succ, eq_self, and_self, List.take_succ_cons, List.take_zero, List.drop_succ_cons, List.drop_zero]
  have hl := len_i hok.1.1
  clear hok
  refine loop_okF (T := tab [c_cmp64]) [0, 1, 9, 10, 11] [] (fun i : Nat => ⟨36, [(0, ri a), (1, ri b), (9, ri a), (10, vi (a.length : Nat)), (11, vi i)], []⟩)
    (fun i => i ≤ a.length ∧ i ≤ b.length ∧ cmpL a b = cmpL (a.drop i) (b.drop i)) (fun i => a.length - i) 0 rfl rfl ⟨Nat.zero_le _, Nat.zero_le _, rfl⟩ (fun i hi => ?_)
  obtain ⟨hi, hib, hm⟩ := hi
  simp only [go_sem, ↓brB_t, ↓brB_f, Nat.reduceAdd, Int.reduceLE, Int.reduceLT, Int.reduceNeg, decide_true, decide_false, Bool.and_self, Nat.succ_eq_add_one, Int.toNat_natCast, Nat.beq_refl, Bool.and_true, Bool.true_and, Bool.false_or, Bool.or_true, List.all_cons, List.all_nil, Nat.reduceMul, Nat.add_zero, Nat.zero_add, List.length_nil, List.length_cons, dite_true, List.nil_append, Nat.reduceBEq, reduceDIte, reduceIte, reduceCtorEq, Bool.or_false, Bool.true_or, Bool.and_false, Bool.false_and, Bool.not_true, Bool.not_false, Option.isSome_some, Option.isSome_none, Option.getD_some, List.getElem?_cons_zero, List.getElem?_cons_succ, eq_self, and_self, List.take_succ_cons, List.take_zero, List.drop_succ_cons, List.drop_zero]
  refine brB_intro (fun h1 => ?_) (fun h1 => ?_)
  · have h1 := of_decide_eq_true h1
    have hw : w64 ((i : Int) + 1) = ((i + 1 : Nat) : Int) := w64_s (n := a.length) (by omega) hl
    refine ⟨⟨by omega, by omega⟩, brB_intro (fun h2 => ret0 ?_) (fun h2 => ?_)⟩
    · have h2 := of_decide_eq_true h2
      rw [hm, cmpL_e (by omega) (by omega)] at hK; exact hK
    · have h2 := of_decide_eq_false h2
      have hs := cmpL_s (a := a) (b := b) (i := i) (by omega) (by omega)
      refine ⟨⟨by omega, by omega⟩, brB_intro (fun h3 => ret0 ?_) (fun h3 => ⟨i + 1, [], ⟨by omega, by omega, ?_⟩, by omega, rfl, by rw [hw]; rfl⟩)⟩
      · rw [if_neg (of_decide_eq_false (nb h3))] at hs
        rw [hm, hs] at hK; exact hK
      · rw [if_pos (of_decide_eq_true (nb' h3))] at hs
        rw [hm, hs]
  · have h1 := of_decide_eq_false h1
    have h0 := cmpL_0 (a := a) (b := b) (i := i) (by omega)
    refine brB_intro (fun h2 => ret0 ?_) (fun h2 => ret0 ?_)
    · have h2 := of_decide_eq_true h2
      rw [if_pos (by omega)] at h0
      rw [hm, h0] at hK; exact hK
    · have h2 := of_decide_eq_false h2
      rw [if_neg (by omega)] at h0
      rw [hm, h0] at hK; exact hK
def c_cmpS : Ctr Tryz.prog := ⟨141, ent Tryz.func141 rfl rfl, [], sp_cmpS, good_cmpS, []⟩
@[go_sem] theorem c_cmpS_f : c_cmpS.f = 141 := rfl
@[go_sem] theorem c_cmpS_ms : c_cmpS.ms = [] := rfl
@[go_sem] theorem c_cmpS_sp : c_cmpS.spec = sp_cmpS := rfl
@[go_sem] theorem c_cmpS_fz : c_cmpS.fz = [] := rfl
attribute [go_sem] sp_cmpS
theorem cmpL_lex : ∀ {a b : List Int}, a.length = b.length → decide (0 ≤ cmpL a b) = !lexLt a b
  | [], [], _ => rfl
  | [], _ :: _, h => by simp at h
  | _ :: _, [], h => by simp at h
  | x :: a, y :: b, h => by
    have ih := cmpL_lex (a := a) (b := b) (by simpa using h)
    rw [cmpL, lexLt]
    by_cases e : x = y
    · subst e
      have e0 : cmpI x x = 0 := by rw [cmpI, if_neg (by omega), if_neg (by omega)]
      rw [if_pos e0, if_pos rfl, ih]
    · rw [if_neg e]
      by_cases l : x < y
      · have e1 : cmpI x y = -1 := by rw [cmpI, if_pos l]
        rw [e1, if_neg (by omega), decide_eq_true l]; rfl
      · have e1 : cmpI x y = 1 := by rw [cmpI, if_neg l, if_pos (by omega)]
        rw [e1, if_neg (by omega), decide_eq_false l]; rfl
end Go.Proofs.YthfmlelodmcgkaaGreat.V
end
section
namespace Go.Proofs.YthfmlelodmcgkaaGreat.V
open Go
abbrev kRow : Kn := .sl 2 (.int .i64)
def sumLen (ls : List (List Int)) : Nat := (ls.map List.length).sum
def sp_concat : List Cv → List Obj' → Tree
  | [.one (.ro (.sl 2 (.int .i64)) ls)], [] => .need (sumLen ls < 1099511627776) (.ret (ow 0) [rwi (List.flatten (ls : List (List Int)))])
  | _, _ => .fail
theorem sumLen_s {ls : List (List Int)} {i : Nat} (h : i < ls.length) : sumLen (ls.take (i + 1)) = sumLen (ls.take i) + (ls.getD i []).length := by
  rw [sumLen, sumLen, List.take_succ_eq_append_getElem h, List.map_append, List.sum_append, List.getD_eq_getElem?_getD, List.getElem?_eq_getElem h]
  simp
theorem sumLen_le (ls : List (List Int)) (i : Nat) : sumLen (ls.take i) ≤ sumLen ls := by
  have e : sumLen ls = sumLen (ls.take i) + sumLen (ls.drop i) := by
    rw [sumLen, sumLen, sumLen, ← List.sum_append, ← List.map_append, List.take_append_drop]
  omega
theorem flat_s {ls : List (List Int)} {i : Nat} (h : i < ls.length) : (ls.take (i + 1)).flatten = (ls.take i).flatten ++ ls.getD i [] := by
  rw [List.take_succ_eq_append_getElem h, List.flatten_append, List.getD_eq_getElem?_getD, List.getElem?_eq_getElem h]
  simp
theorem flat_len (ls : List (List Int)) : ls.flatten.length = sumLen ls := by rw [List.length_flatten]; rfl
theorem w64_add {m n : Nat} (h : m + n < 1099511627776) : w64 ((m : Int) + n) = ((m + n : Nat) : Int) := by rw [w64_id (by omega) (by omega)]; omega
set_option maxHeartbeats 4000000 in
set_option maxRecDepth 100000 in
theorem good_concat : Good Tryz.prog 164 sp_concat := by
  refine good_ofF Tryz.func164 rfl _ rfl _ rfl (tab [c_grow]) (fun X cs os0 K hok hos hK => ?_)
  clear hos; unfold sp_concat at hK
  split at hK
  case h_2 => exact hK.elim
  rename_i ls
  refine ⟨by simp, by simp, ?_⟩
  simp only [go_sem] at hK hok
  simp (maxSteps := 4000000) only [go_sem, Tryz.f164, ↓brB_t, ↓brB_f, Nat.reduceAdd, Int.reduceLE, Int.reduceLT, Int.reduceNeg, decide_true, decide_false, Bool.and_self, Nat.succ_eq_add_one, Int.toNat_natCast, Nat.beq_refl, Bool.and_true, Bool.true_and, Bool.false_or, Bool.or_true, List.all_cons, List.all_nil, Nat.reduceMul, Nat.add_zero, Nat.zero_add, List.length_nil, List.length_cons, dite_true, List.nil_append, Nat.reduceBEq, reduceDIte, reduceIte, reduceCtorEq, Bool.or_false, Bool.true_or, Bool.and_false, Bool.false_and, Bool.not_true, Bool.not_false, Option.isSome_some, Option.isSome_none, Option.getD_some, List.getElem?_cons_zero, List.getElem?_cons_succ, eq_self, and_self, List.take_succ_cons, List.take_zero, List.drop_succ_cons, List.drop_zero]
  obtain ⟨ht, hK⟩ := hK
  have hl := len_i hok.1.1
  clear hok
  refine loop_okF (T := tab [c_grow]) [0, 3, 9, 10, 11] [] (fun i : Nat => ⟨36, [(0, .val (.one (.ro kRow ls))), (3, vi (sumLen (ls.take i) : Nat)), (9, .val (.one (.ro kRow ls))), (10, vi (ls.length : Nat)), (11, vi i)], []⟩)
    (fun i => i ≤ ls.length) (fun i => ls.length - i) 0 rfl rfl (Nat.zero_le _) (fun i hi => ?_)
  simp only [go_sem, ↓brB_t, ↓brB_f, Nat.reduceAdd, Int.reduceLE, Int.reduceLT, Int.reduceNeg, decide_true, decide_false, Bool.and_self, Nat.succ_eq_add_one, Int.toNat_natCast, Nat.beq_refl, Bool.and_true, Bool.true_and, Bool.false_or, Bool.or_true, List.all_cons, List.all_nil, Nat.reduceMul, Nat.add_zero, Nat.zero_add, List.length_nil, List.length_cons, dite_true, List.nil_append, Nat.reduceBEq, reduceDIte, reduceIte, reduceCtorEq, Bool.or_false, Bool.true_or, Bool.and_false, Bool.false_and, Bool.not_true, Bool.not_false, Option.isSome_some, Option.isSome_none, Option.getD_some, List.getElem?_cons_zero, List.getElem?_cons_succ, eq_self, and_self, List.take_succ_cons, List.take_zero, List.drop_succ_cons, List.drop_zero]
  have hti := sumLen_le ls i
  refine brB_intro (fun h1 => ?_) (fun h1 => ⟨⟨by omega, by omega⟩, ?_⟩)
  · have h1 := of_decide_eq_true h1
    have hs := sumLen_s (ls := ls) (i := i) (by omega)
    have hle := sumLen_le ls (i + 1)
    have hw : w64 ((sumLen (ls.take i) : Int) + (ls.getD i []).length) = ((sumLen (ls.take (i + 1)) : Nat) : Int) := by rw [w64_add (by omega), hs]
    simp only [hw]
    refine ⟨⟨by omega, by omega⟩, brB_intro (fun h2 => by have := of_decide_eq_true h2; omega) (fun _ => ⟨i + 1, [], by omega, by omega, rfl, ?_⟩)⟩
    rw [w64_s (n := ls.length) (by omega) hl]; rfl
  · refine loop_okF (T := tab [c_grow]) [6, 25, 26, 27] [(16, 400)] (fun i : Nat => ⟨36, [(6, ow 16), (25, .val (.one (.ro kRow ls))), (26, vi (ls.length : Nat)), (27, vi i)], [(16, rwi (ls.take i).flatten)]⟩)
      (fun i => i ≤ ls.length) (fun i => ls.length - i) 0 rfl rfl (Nat.zero_le _) (fun i hi => ?_)
    have hfl : (ls.take i).flatten.length = sumLen (ls.take i) := flat_len _
    simp only [go_sem, ↓brB_t, ↓brB_f, Nat.reduceAdd, Int.reduceLE, Int.reduceLT, Int.reduceNeg, decide_true, decide_false, Bool.and_self, Nat.succ_eq_add_one, Int.toNat_natCast, Nat.beq_refl, Bool.and_true, Bool.true_and, Bool.false_or, Bool.or_true, List.all_cons, List.all_nil, Nat.reduceMul, Nat.add_zero, Nat.zero_add, List.length_nil, List.length_cons, dite_true, List.nil_append, Nat.reduceBEq, reduceDIte, reduceIte, reduceCtorEq, Bool.or_false, Bool.true_or, Bool.and_false, Bool.false_and, Bool.not_true, Bool.not_false, Option.isSome_some, Option.isSome_none, Option.getD_some, List.getElem?_cons_zero, List.getElem?_cons_succ, eq_self, and_self, List.take_succ_cons, List.take_zero, List.drop_succ_cons, List.drop_zero]
    refine brB_intro (fun h1 => ?_) (fun h1 => retN [16] rfl ?_)
    · have h1 := of_decide_eq_true h1
      have hs := sumLen_s (ls := ls) (i := i) (by omega)
      have hle := sumLen_le ls (i + 1)
      refine ⟨⟨by omega, by omega⟩, by rw [hfl]; omega, i + 1, [(16, 544)], by omega, by omega, rfl, ?_⟩
      rw [w64_s (n := ls.length) (by omega) hl, flat_s (by omega)]; rfl
    · have h1 := of_decide_eq_false h1
      have e : i = ls.length := by omega
      rw [e, List.take_length]; exact hK
def c_concat : Ctr Tryz.prog := ⟨164, ent Tryz.func164 rfl rfl, [], sp_concat, good_concat, []⟩
@[go_sem] theorem c_concat_f : c_concat.f = 164 := rfl
@[go_sem] theorem c_concat_ms : c_concat.ms = [] := rfl
@[go_sem] theorem c_concat_sp : c_concat.spec = sp_concat := rfl
@[go_sem] theorem c_concat_fz : c_concat.fz = [] := rfl
attribute [go_sem] sp_concat
end Go.Proofs.YthfmlelodmcgkaaGreat.V
end
section
namespace Go.Proofs.YthfmlelodmcgkaaGreat.V
open Go
open Go.Proofs.YthfmlelodmcgkaaGreat.K (normFrom normalL metBy idxOf?_lt idxOf?_snoc normFrom_length normalL_length twiceL)
theorem idx_keep (l : List Int) : ∀ (met : List Int) (x : Int), x ∈ met → (metBy met l).idxOf? x = met.idxOf? x := by
  induction l with
  | nil => intro met x _; rfl
  | cons y r ih =>
    intro met x hx
    rw [metBy]
    cases h : met.idxOf? y with
    | some j => exact ih met x hx
    | none =>
      show (metBy (met ++ [y]) r).idxOf? x = _
      rw [ih (met ++ [y]) x (List.mem_append_left _ hx), idxOf?_snoc met y x h, if_neg]
      intro e
      have : y ∉ met := by simpa [List.idxOf?_eq_none_iff] using h
      exact this (e ▸ hx)
theorem mem_metBy (l : List Int) : ∀ (met : List Int) (x : Int), x ∈ met ∨ x ∈ l → x ∈ metBy met l := by
  induction l with
  | nil => intro met x h; simpa [metBy] using h
  | cons y r ih =>
    intro met x h
    rw [metBy]
    cases hy : met.idxOf? y with
    | some j =>
      refine ih met x ?_
      rcases h with h | h
      · exact .inl h
      · rcases List.mem_cons.1 h with e | h
        · subst e
          exact .inl (Decidable.byContradiction fun hn => by
            rw [List.idxOf?_eq_none_iff.2 hn] at hy; cases hy)
        · exact .inr h
    | none =>
      refine ih (met ++ [y]) x ?_
      rcases h with h | h
      · exact .inl (List.mem_append_left _ h)
      · rcases List.mem_cons.1 h with e | h
        · exact .inl (List.mem_append_right _ (by simp [e]))
        · exact .inr h
def gI (m : List Int) (x : Int) : Int := (((m.idxOf? x).getD 0 : Nat) : Int)
theorem normFrom_map' (l : List Int) : ∀ met : List Int, normFrom met l = l.map (gI (metBy met l)) := by
  induction l with
  | nil => intro met; rfl
  | cons x r ih =>
    intro met
    rw [normFrom, metBy]
    cases h : met.idxOf? x with
    | some j =>
      have hx : x ∈ met := Decidable.byContradiction fun hn => by rw [List.idxOf?_eq_none_iff.2 hn] at h; cases h
      show (j : Int) :: normFrom met r = gI (metBy met r) x :: r.map (gI (metBy met r))
      rw [ih met, gI, idx_keep r met x hx, h]; rfl
    | none =>
      show (met.length : Int) :: normFrom (met ++ [x]) r = gI (metBy (met ++ [x]) r) x :: r.map (gI (metBy (met ++ [x]) r))
      rw [ih (met ++ [x]), gI, idx_keep r (met ++ [x]) x (by simp), idxOf?_snoc met x x h, if_pos rfl]; rfl
theorem idx_some {m : List Int} {x : Int} (h : x ∈ m) : ∃ i, m.idxOf? x = some i ∧ m[i]? = some x := by
  cases hx : m.idxOf? x with
  | none => rw [List.idxOf?_eq_none_iff] at hx; exact absurd h hx
  | some i =>
    rw [List.idxOf?, List.findIdx?_eq_some_iff_getElem] at hx
    obtain ⟨h1, h2, _⟩ := hx
    exact ⟨i, rfl, by rw [List.getElem?_eq_getElem h1]; simpa using h2⟩
theorem gI_inj {m : List Int} {x y : Int} (hx : x ∈ m) (hy : y ∈ m) (h : gI m x = gI m y) : x = y := by
  obtain ⟨i, h1, h2⟩ := idx_some hx
  obtain ⟨j, h3, h4⟩ := idx_some hy
  unfold gI at h
  rw [h1, h3] at h
  have : i = j := by
    have h : ((i : Nat) : Int) = ((j : Nat) : Int) := h
    omega
  subst this
  rw [h2] at h4
  injection h4
theorem normalL_gI (l : List Int) : normalL l = l.map (gI (metBy [] l)) := normFrom_map' l []
theorem normal_idem (l : List Int) : normalL (normalL l) = normalL l := by
  have h := Go.Proofs.YthfmlelodmcgkaaGreat.L.normFrom_map (gI (metBy [] l)) l [] (fun x hx y hy e => gI_inj (mem_metBy l [] x (.inr (by simpa using hx))) (mem_metBy l [] y (.inr (by simpa using hy))) e)
  rw [← normalL_gI] at h
  exact h
theorem count_gI {l : List Int} {x : Int} (hx : x ∈ l) : (l.map (gI (metBy [] l))).count (gI (metBy [] l) x) = l.count x := by
  rw [List.count, List.countP_map, List.count]
  refine List.countP_congr fun y hy => ?_
  simp only [Function.comp_apply, beq_iff_eq]
  exact ⟨fun e => gI_inj (mem_metBy l [] y (.inr hy)) (mem_metBy l [] x (.inr hx)) e, fun e => by rw [e]⟩
theorem normal_isW {l : List Int} (hl : l.length ≤ 12) (ht : twiceL l = true) : isW (normalL l) = true := by
  unfold isW
  rw [normalL_length, decide_eq_true hl, normal_idem, decide_eq_true (rfl : normalL l = normalL l), Bool.true_and, Bool.and_true]
  unfold twiceL at ht ⊢
  rw [List.all_eq_true] at ht ⊢
  intro y hy
  rw [normalL_gI] at hy ⊢
  obtain ⟨x, hx, rfl⟩ := List.mem_map.1 hy
  rw [count_gI hx]
  exact ht x hx
end Go.Proofs.YthfmlelodmcgkaaGreat.V
end
section
namespace Go.Proofs.YthfmlelodmcgkaaGreat.V
open Go
def rotL (w : List Int) (k : Nat) : List Int := Go.Proofs.YthfmlelodmcgkaaGreat.K.normalL (w.drop k ++ w.take k)
theorem rotL_len (w : List Int) (k : Nat) : (rotL w k).length = w.length := by
  rw [rotL, Go.Proofs.YthfmlelodmcgkaaGreat.K.normalL_length, List.length_append, List.length_drop, List.length_take]; omega
def leastF (w : List Int) (n : Nat) : List Int := (List.range n).foldl (fun o k => if lexLt (rotL w k) o then rotL w k else o) w
theorem leastF_s (w : List Int) (n : Nat) : leastF w (n + 1) = if lexLt (rotL w n) (leastF w n) then rotL w n else leastF w n := by
  rw [leastF, List.range_succ, List.foldl_append]; rfl
theorem leastF_len (w : List Int) : ∀ n, (leastF w n).length = w.length
  | 0 => rfl
  | n + 1 => by
    rw [leastF_s]
    split
    · exact rotL_len w n
    · exact leastF_len w n
def leastL (w : List Int) : List Int := leastF w w.length
theorem leastL_len (w : List Int) : (leastL w).length = w.length := leastF_len w _
theorem isW_normal {w : List Int} (h : isW w = true) : Go.Proofs.YthfmlelodmcgkaaGreat.K.normalL w = w := by
  unfold isW at h
  rw [Bool.and_eq_true, Bool.and_eq_true] at h
  exact of_decide_eq_true h.2.2
theorem isW_twice {w : List Int} (h : isW w = true) : Go.Proofs.YthfmlelodmcgkaaGreat.K.twiceL w = true := by
  unfold isW at h
  rw [Bool.and_eq_true, Bool.and_eq_true] at h
  exact h.2.1
theorem isW_l12 {w : List Int} (h : isW w = true) : w.length ≤ 12 := by
  unfold isW at h
  rw [Bool.and_eq_true] at h
  exact of_decide_eq_true h.1
theorem leastF_1 {w : List Int} (h : Go.Proofs.YthfmlelodmcgkaaGreat.K.normalL w = w) : leastF w 1 = w := by
  have e : rotL w 0 = w := by rw [rotL, List.drop_zero, List.take_zero, List.append_nil, h]
  show (if lexLt (rotL w 0) w then rotL w 0 else w) = w
  rw [e]; split <;> rfl
theorem rotL_isW {w : List Int} (h : isW w = true) (k : Nat) : isW (rotL w k) = true := by
  refine normal_isW (by have := isW_l12 h; rw [List.length_append, List.length_drop, List.length_take]; omega) ?_
  have ht := isW_twice h
  unfold Go.Proofs.YthfmlelodmcgkaaGreat.K.twiceL at ht ⊢
  rw [List.all_eq_true] at ht ⊢
  have hp : (w.drop k ++ w.take k).Perm w := (List.perm_append_comm).trans (by rw [List.take_append_drop])
  intro x hx
  rw [hp.count_eq]
  exact ht x (hp.mem_iff.1 hx)
theorem leastF_isW {w : List Int} (h : isW w = true) : ∀ n, isW (leastF w n) = true
  | 0 => h
  | n + 1 => by
    rw [leastF_s]
    split
    · exact rotL_isW h n
    · exact leastF_isW h n
theorem leastL_isW {w : List Int} (h : isW w = true) : isW (leastL w) = true := leastF_isW h _
theorem before_lex {a b : List Int} (h : a.length = b.length) : beforeB a b = lexLt a b := by rw [beforeB, if_pos h]
theorem cmpL_lt {a b : List Int} (h : a.length = b.length) : decide (cmpL a b < 0) = lexLt a b := by
  have := cmpL_lex h
  by_cases e : cmpL a b < 0
  · rw [decide_eq_false (by omega)] at this
    rw [decide_eq_true e]; cases hl : lexLt a b
    · rw [hl] at this; cases this
    · rfl
  · rw [decide_eq_true (by omega)] at this
    rw [decide_eq_false e]; cases hl : lexLt a b
    · rfl
    · rw [hl] at this; cases this
theorem flat2' (a b : List Int) : [a, b].flatten = a ++ b := by simp
theorem sum2' (a b : List Int) : sumLen [a, b] = a.length + b.length := by simp [sumLen]
def sp_rotated : List Cv → List Obj' → Tree
  | [.one (.ro (.int .i64) w), .one (.v (.int .i64 k))], [] => .need (w.length < 1099511627776 ∧ 0 ≤ k ∧ k ≤ (w.length : Int)) (.ret (ri (rotL w k.toNat)) [])
  | _, _ => .fail
set_option maxHeartbeats 4000000 in
set_option maxRecDepth 100000 in
theorem good_rotated : Good Tryz.prog 140 sp_rotated := by
  refine good_ofF Tryz.func140 rfl _ rfl _ rfl (tab [c_concat, c_normal]) (fun X cs os0 K hok hos hK => ?_)
  clear hos; unfold sp_rotated at hK
  split at hK
  case h_2 => exact hK.elim
  rename_i w k
  refine ⟨by simp, by simp, ?_⟩
  simp only [go_sem] at hK hok
  simp (maxSteps := 4000000) only [go_sem, Tryz.f140, ↓brB_t, ↓brB_f, Nat.reduceAdd, Int.reduceLE, Int.reduceLT, Int.reduceNeg, decide_true, decide_false, Bool.and_self, Nat.succ_eq_add_one, Int.toNat_natCast, Nat.beq_refl, Bool.and_true, Bool.true_and, Bool.false_or, Bool.or_true, List.all_cons, List.all_nil, Nat.reduceMul, Nat.add_zero, Nat.zero_add, List.length_nil, List.length_cons, dite_true, List.nil_append, Nat.reduceBEq, reduceDIte, reduceIte, reduceCtorEq, Bool.or_false, Bool.true_or, Bool.and_false, Bool.false_and, Bool.not_true, Bool.not_false, Option.isSome_some, Option.isSome_none, Option.getD_some, List.getElem?_cons_zero, List.getElem?_cons_succ, eq_self, and_self, List.take_succ_cons, List.take_zero, List.drop_succ_cons, List.drop_zero]
  obtain ⟨⟨hl, h0, h1⟩, hK⟩ := hK
  clear hok
  rw [flat2', sum2']
  have l1 : (w.drop k.toNat).length + (w.take k.toNat).length = w.length := by rw [List.length_drop, List.length_take]; omega
  have l2 : (w.drop k.toNat ++ w.take k.toNat).length = w.length := by rw [List.length_append]; exact l1
  exact ⟨⟨h0, h1⟩, ⟨h0, h1⟩, by omega, by omega, by kernel_rfl, retN [] rfl hK⟩
def c_rotated : Ctr Tryz.prog := ⟨140, ent Tryz.func140 rfl rfl, [], sp_rotated, good_rotated, []⟩
@[go_sem] theorem c_rotated_f : c_rotated.f = 140 := rfl
@[go_sem] theorem c_rotated_ms : c_rotated.ms = [] := rfl
@[go_sem] theorem c_rotated_sp : c_rotated.spec = sp_rotated := rfl
@[go_sem] theorem c_rotated_fz : c_rotated.fz = [] := rfl
attribute [go_sem] sp_rotated
def sp_l01Rotate : List Cv → List Obj' → Tree
  | [.one (.ro (.int .i64) w), .one (.v (.int .i64 k))], [] => .need (w.length < 1099511627776 ∧ 0 ≤ k ∧ k ≤ (w.length : Int)) (.ret (ri (rotL w k.toNat)) [])
  | _, _ => .fail
set_option maxHeartbeats 4000000 in
set_option maxRecDepth 100000 in
theorem good_l01Rotate : Good Tryz.prog 129 sp_l01Rotate := by
  refine good_ofF Tryz.func129 rfl _ rfl _ rfl (tab [c_own, c_l01Normal]) (fun X cs os0 K hok hos hK => ?_)
  clear hos; unfold sp_l01Rotate at hK
  split at hK
  case h_2 => exact hK.elim
  rename_i w k
  refine ⟨by simp, by simp, ?_⟩
  simp only [go_sem] at hK hok
  simp (maxSteps := 4000000) only [go_sem, Tryz.f129, ↓brB_t, ↓brB_f, Nat.reduceAdd, Int.reduceLE, Int.reduceLT, Int.reduceNeg, decide_true, decide_false, Bool.and_self, Nat.succ_eq_add_one, Int.toNat_natCast, Nat.beq_refl, Bool.and_true, Bool.true_and, Bool.false_or, Bool.or_true, List.all_cons, List.all_nil, Nat.reduceMul, Nat.add_zero, Nat.zero_add, List.length_nil, List.length_cons, dite_true, List.nil_append, Nat.reduceBEq, reduceDIte, reduceIte, reduceCtorEq, Bool.or_false, Bool.true_or, Bool.and_false, Bool.false_and, Bool.not_true, Bool.not_false, Option.isSome_some, Option.isSome_none, Option.getD_some, List.getElem?_cons_zero, List.getElem?_cons_succ, eq_self, and_self, List.take_succ_cons, List.take_zero, List.drop_succ_cons, List.drop_zero]
  obtain ⟨⟨hl, h0, h1⟩, hK⟩ := hK
  clear hok
  have l1 : (w.drop k.toNat).length + (w.take k.toNat).length = w.length := by rw [List.length_drop, List.length_take]; omega
  have l2 : (w.drop k.toNat ++ w.take k.toNat).length = w.length := by rw [List.length_append]; exact l1
  exact ⟨⟨h0, h1⟩, by omega, ⟨h0, h1⟩, by omega, by omega, by kernel_rfl, retN [] rfl hK⟩
def c_l01Rotate : Ctr Tryz.prog := ⟨129, ent Tryz.func129 rfl rfl, [], sp_l01Rotate, good_l01Rotate, []⟩
@[go_sem] theorem c_l01Rotate_f : c_l01Rotate.f = 129 := rfl
@[go_sem] theorem c_l01Rotate_ms : c_l01Rotate.ms = [] := rfl
@[go_sem] theorem c_l01Rotate_sp : c_l01Rotate.spec = sp_l01Rotate := rfl
@[go_sem] theorem c_l01Rotate_fz : c_l01Rotate.fz = [] := rfl
attribute [go_sem] sp_l01Rotate
def sp_least : List Cv → List Obj' → Tree
  | [.one (.ro (.int .i64) w)], [] => .need (w.length < 1099511627776 ∧ Go.Proofs.YthfmlelodmcgkaaGreat.K.normalL w = w) (.ret (ri (leastL w)) [])
  | _, _ => .fail
set_option maxHeartbeats 4000000 in
set_option maxRecDepth 100000 in
theorem good_leastI : Good Tryz.prog 96 sp_least := by
  refine good_ofF Tryz.func96 rfl _ rfl _ rfl (tab [c_rotated, c_cmpS, c_clone]) (fun X cs os0 K hok hos hK => ?_)
  clear hos; unfold sp_least at hK
  split at hK
  case h_2 => exact hK.elim
  rename_i w
  refine ⟨by simp, by simp, ?_⟩
  simp only [go_sem] at hK hok
  simp (maxSteps := 4000000) only [go_sem, Tryz.f96, ↓brB_t, ↓brB_f, Nat.reduceAdd, Int.reduceLE, Int.reduceLT, Int.reduceNeg, decide_true, decide_false, Bool.and_self, Nat.succ_eq_add_one, Int.toNat_natCast, Nat.beq_refl, Bool.and_true, Bool.true_and, Bool.false_or, Bool.or_true, List.all_cons, List.all_nil, Nat.reduceMul, Nat.add_zero, Nat.zero_add, List.length_nil, List.length_cons, dite_true, List.nil_append, Nat.reduceBEq, reduceDIte, reduceIte, reduceCtorEq, Bool.or_false, Bool.true_or, Bool.and_false, Bool.false_and, Bool.not_true, Bool.not_false, Option.isSome_some, Option.isSome_none, Option.getD_some, List.getElem?_cons_zero, List.getElem?_cons_succ, eq_self, and_self, List.take_succ_cons, List.take_zero, List.drop_succ_cons, List.drop_zero]
  obtain ⟨⟨hl, hn⟩, hK⟩ := hK
  clear hok
  refine loop_okF (T := tab [c_rotated, c_cmpS, c_clone]) [0, 3, 8, 9] [] (fun k : Nat => ⟨23, [(0, ri w), (3, ri (leastF w k)), (8, vi w.length), (9, vi k)], []⟩)
    (fun k => k ≤ w.length) (fun k => w.length - k) 0 rfl rfl (Nat.zero_le _) (fun k hk => ?_)
  have hf := leastF_len w k
  simp only [go_sem, ↓brB_t, ↓brB_f, Nat.reduceAdd, Int.reduceLE, Int.reduceLT, Int.reduceNeg, decide_true, decide_false, Bool.and_self, Nat.succ_eq_add_one, Int.toNat_natCast, Nat.beq_refl, Bool.and_true, Bool.true_and, Bool.false_or, Bool.or_true, List.all_cons, List.all_nil, Nat.reduceMul, Nat.add_zero, Nat.zero_add, List.length_nil, List.length_cons, dite_true, List.nil_append, Nat.reduceBEq, reduceDIte, reduceIte, reduceCtorEq, Bool.or_false, Bool.true_or, Bool.and_false, Bool.false_and, Bool.not_true, Bool.not_false, Option.isSome_some, Option.isSome_none, Option.getD_some, List.getElem?_cons_zero, List.getElem?_cons_succ, eq_self, and_self, List.take_succ_cons, List.take_zero, List.drop_succ_cons, List.drop_zero]
  refine brB_intro (fun h1 => ?_) (fun h1 => ?_)
  · have h1 := of_decide_eq_true h1
    have hs := leastF_s w k
    have hw1 : w64 ((k : Int) + 1) = ((k + 1 : Nat) : Int) := w64_s (n := w.length) (by omega) (by omega)
    have hc := cmpL_lt (a := rotL w k) (b := leastF w k) (by rw [rotL_len, hf])
    refine ⟨⟨by omega, by omega, by omega⟩, brB_intro (fun h2 => ?_) (fun h2 => ?_)⟩
    · rw [hc] at h2
      rw [if_pos h2] at hs
      refine ⟨k + 1, [], by omega, by omega, rfl, ?_⟩
      rw [hw1, hs]; rfl
    · rw [hc] at h2
      rw [if_neg (by rw [h2]; decide)] at hs
      refine ⟨k + 1, [], by omega, by omega, rfl, ?_⟩
      rw [hw1, hs]; rfl
  · have h1 := of_decide_eq_false h1
    have e : k = w.length := by omega
    subst e
    exact ⟨by omega, retN [] rfl hK⟩
def c_leastI : Ctr Tryz.prog := ⟨96, ent Tryz.func96 rfl rfl, [], sp_least, good_leastI, []⟩
@[go_sem] theorem c_leastI_f : c_leastI.f = 96 := rfl
@[go_sem] theorem c_leastI_ms : c_leastI.ms = [] := rfl
@[go_sem] theorem c_leastI_sp : c_leastI.spec = sp_least := rfl
@[go_sem] theorem c_leastI_fz : c_leastI.fz = [] := rfl
attribute [go_sem] sp_least
set_option maxHeartbeats 4000000 in
set_option maxRecDepth 100000 in
theorem good_leastS : Good Tryz.prog 86 sp_least := by
  refine good_ofF Tryz.func86 rfl _ rfl _ rfl (tab [c_own, c_l01Rotate, c_l01Before]) (fun X cs os0 K hok hos hK => ?_)
  clear hos; unfold sp_least at hK
  split at hK
  case h_2 => exact hK.elim
  rename_i w
  refine ⟨by simp, by simp, ?_⟩
  simp only [go_sem] at hK hok
  simp (maxSteps := 4000000) only [go_sem, Tryz.f86, ↓brB_t, ↓brB_f, Nat.reduceAdd, Int.reduceLE, Int.reduceLT, Int.reduceNeg, decide_true, decide_false, Bool.and_self, Nat.succ_eq_add_one, Int.toNat_natCast, Nat.beq_refl, Bool.and_true, Bool.true_and, Bool.false_or, Bool.or_true, List.all_cons, List.all_nil, Nat.reduceMul, Nat.add_zero, Nat.zero_add, List.length_nil, List.length_cons, dite_true, List.nil_append, Nat.reduceBEq, reduceDIte, reduceIte, reduceCtorEq, Bool.or_false, Bool.true_or, Bool.and_false, Bool.false_and, Bool.not_true, Bool.not_false, Option.isSome_some, Option.isSome_none, Option.getD_some, List.getElem?_cons_zero, List.getElem?_cons_succ, eq_self, and_self, List.take_succ_cons, List.take_zero, List.drop_succ_cons, List.drop_zero]
  obtain ⟨⟨hl, hn⟩, hK⟩ := hK
  clear hok
  refine ⟨hl, ?_⟩
  refine loop_okF (T := tab [c_own, c_l01Rotate, c_l01Before]) [0, 3, 4] [] (fun k : Nat => ⟨22, [(0, ri w), (3, ri (leastF w k)), (4, vi k)], []⟩)
    (fun k => 1 ≤ k ∧ (k ≤ w.length ∨ k = 1)) (fun k => w.length - k) 1 rfl (by rw [leastF_1 hn]; rfl) ⟨Nat.le_refl _, .inr rfl⟩ (fun k hk => ?_)
  obtain ⟨hk1, hk⟩ := hk
  have hf := leastF_len w k
  simp only [go_sem, ↓brB_t, ↓brB_f, Nat.reduceAdd, Int.reduceLE, Int.reduceLT, Int.reduceNeg, decide_true, decide_false, Bool.and_self, Nat.succ_eq_add_one, Int.toNat_natCast, Nat.beq_refl, Bool.and_true, Bool.true_and, Bool.false_or, Bool.or_true, List.all_cons, List.all_nil, Nat.reduceMul, Nat.add_zero, Nat.zero_add, List.length_nil, List.length_cons, dite_true, List.nil_append, Nat.reduceBEq, reduceDIte, reduceIte, reduceCtorEq, Bool.or_false, Bool.true_or, Bool.and_false, Bool.false_and, Bool.not_true, Bool.not_false, Option.isSome_some, Option.isSome_none, Option.getD_some, List.getElem?_cons_zero, List.getElem?_cons_succ, eq_self, and_self, List.take_succ_cons, List.take_zero, List.drop_succ_cons, List.drop_zero]
  refine brB_intro (fun h1 => ?_) (fun h1 => ?_)
  · have h1 := of_decide_eq_true h1
    have hs := leastF_s w k
    have hw1 : w64 ((k : Int) + 1) = ((k + 1 : Nat) : Int) := w64_s (n := w.length) (by omega) (by omega)
    have hc := before_lex (a := rotL w k) (b := leastF w k) (by rw [rotL_len, hf])
    refine ⟨⟨by omega, by omega, by omega⟩, brB_intro (fun h2 => ?_) (fun h2 => ?_)⟩
    · have h2 : beforeB (rotL w k) (leastF w k) = true := h2
      rw [hc] at h2
      rw [if_pos h2] at hs
      refine ⟨k + 1, [], ⟨by omega, by omega⟩, by omega, rfl, ?_⟩
      rw [hw1, hs]; rfl
    · have h2 : beforeB (rotL w k) (leastF w k) = false := h2
      rw [hc] at h2
      rw [if_neg (by rw [h2]; decide)] at hs
      refine ⟨k + 1, [], ⟨by omega, by omega⟩, by omega, rfl, ?_⟩
      rw [hw1, hs]; rfl
  · have h1 := of_decide_eq_false h1
    have e : leastF w k = leastL w := by
      unfold leastL
      rcases Nat.lt_or_ge w.length k with h | h
      · have e1 : k = 1 := by omega
        have e0 : w.length = 0 := by omega
        rw [e1, e0, leastF_1 hn]; rfl
      · have : k = w.length := by omega
        rw [this]
    rw [e]
    exact retN [] rfl hK
def c_leastS : Ctr Tryz.prog := ⟨86, ent Tryz.func86 rfl rfl, [], sp_least, good_leastS, []⟩
@[go_sem] theorem c_leastS_f : c_leastS.f = 86 := rfl
@[go_sem] theorem c_leastS_ms : c_leastS.ms = [] := rfl
@[go_sem] theorem c_leastS_sp : c_leastS.spec = sp_least := rfl
@[go_sem] theorem c_leastS_fz : c_leastS.fz = [] := rfl
attribute [go_sem] sp_least
def sp_isDia : List Cv → List Obj' → Tree
  | [.one (.ro (.int .i64) w)], [] => .need (w.length < 1099511627776 ∧ Go.Proofs.YthfmlelodmcgkaaGreat.K.normalL w = w) (.ret (vb (decide (leastL w = w))) [])
  | _, _ => .fail
set_option maxHeartbeats 4000000 in
set_option maxRecDepth 100000 in
theorem good_isDia : Good Tryz.prog 114 sp_isDia := by
  refine good_ofF Tryz.func114 rfl _ rfl _ rfl (tab [c_leastI, c_equal]) (fun X cs os0 K hok hos hK => ?_)
  clear hos; unfold sp_isDia at hK
  split at hK
  case h_2 => exact hK.elim
  rename_i w
  refine ⟨by simp, by simp, ?_⟩
  simp only [go_sem] at hK hok
  simp (maxSteps := 4000000) only [go_sem, Tryz.f114, ↓brB_t, ↓brB_f, Nat.reduceAdd, Int.reduceLE, Int.reduceLT, Int.reduceNeg, decide_true, decide_false, Bool.and_self, Nat.succ_eq_add_one, Int.toNat_natCast, Nat.beq_refl, Bool.and_true, Bool.true_and, Bool.false_or, Bool.or_true, List.all_cons, List.all_nil, Nat.reduceMul, Nat.add_zero, Nat.zero_add, List.length_nil, List.length_cons, dite_true, List.nil_append, Nat.reduceBEq, reduceDIte, reduceIte, reduceCtorEq, Bool.or_false, Bool.true_or, Bool.and_false, Bool.false_and, Bool.not_true, Bool.not_false, Option.isSome_some, Option.isSome_none, Option.getD_some, List.getElem?_cons_zero, List.getElem?_cons_succ, eq_self, and_self, List.take_succ_cons, List.take_zero, List.drop_succ_cons, List.drop_zero]
  obtain ⟨⟨hl, hn⟩, hK⟩ := hK
  clear hok
  exact ⟨⟨hl, hn⟩, retN [] rfl hK⟩
def c_isDia : Ctr Tryz.prog := ⟨114, ent Tryz.func114 rfl rfl, [], sp_isDia, good_isDia, []⟩
@[go_sem] theorem c_isDia_f : c_isDia.f = 114 := rfl
@[go_sem] theorem c_isDia_ms : c_isDia.ms = [] := rfl
@[go_sem] theorem c_isDia_sp : c_isDia.spec = sp_isDia := rfl
@[go_sem] theorem c_isDia_fz : c_isDia.fz = [] := rfl
attribute [go_sem] sp_isDia
end Go.Proofs.YthfmlelodmcgkaaGreat.V
end
section
namespace Go.Proofs.YthfmlelodmcgkaaGreat.V
open Go
open Go.Proofs.YthfmlelodmcgkaaGreat.K (normFrom normalL metBy twiceL)
def ltrs (m : Nat) : List Int := (List.range m).map fun i : Nat => (i : Int)
theorem ltrs_len (m : Nat) : (ltrs m).length = m := by rw [ltrs, List.length_map, List.length_range]
theorem ltrs_idx {m i : Nat} (h : i < m) : (ltrs m).idxOf? (i : Int) = some i := by
  rw [List.idxOf?, List.findIdx?_eq_some_iff_getElem]
  refine ⟨by rw [ltrs_len]; exact h, by simp [ltrs], fun j hj => ?_⟩
  simp only [ltrs, List.getElem_map, List.getElem_range, beq_iff_eq, Bool.not_eq_true, beq_eq_false_iff_ne, ne_eq]
  omega
theorem ltrs_new (m : Nat) : (ltrs m).idxOf? (m : Int) = none := by
  rw [List.idxOf?_eq_none_iff]
  intro h
  obtain ⟨i, hi, e⟩ := List.mem_map.1 h
  have := List.mem_range.1 hi
  omega
theorem ltrs_s (m : Nat) : ltrs (m + 1) = ltrs m ++ [(m : Int)] := by rw [ltrs, List.range_succ, List.map_append]; rfl
theorem nF_app (a : List Int) : ∀ (met b : List Int), normFrom met (a ++ b) = normFrom met a ++ normFrom (metBy met a) b := by
  induction a with
  | nil => intro met b; rfl
  | cons x a ih =>
    intro met b
    rw [List.cons_append, normFrom, normFrom, metBy]
    cases h : met.idxOf? x with
    | some j => simp only []; rw [ih]; rfl
    | none => simp only []; rw [ih]; rfl
theorem mB_app (a : List Int) : ∀ (met b : List Int), metBy met (a ++ b) = metBy (metBy met a) b := by
  induction a with
  | nil => intro met b; rfl
  | cons x a ih =>
    intro met b
    rw [List.cons_append, metBy, metBy]
    cases h : met.idxOf? x with
    | some j => exact ih _ _
    | none => exact ih _ _
structure BegN (w : List Int) (m : Nat) : Prop where
  beg : begB w m
  nrm : normFrom [] w = w
  met : metBy [] w = ltrs m
theorem BegN.nil : BegN [] 0 := ⟨begB_nil, rfl, rfl⟩
theorem BegN.old {w : List Int} {m x : Nat} (h : BegN w m) (hx : x < m) (h1 : w.count (x : Int) = 1) : BegN (w ++ [(x : Int)]) m := by
  refine ⟨begB_old h.beg hx h1, ?_, ?_⟩
  · rw [nF_app, h.nrm, h.met, normFrom, ltrs_idx hx]; rfl
  · rw [mB_app, h.met, metBy, ltrs_idx hx]; rfl
theorem BegN.new {w : List Int} {m : Nat} (h : BegN w m) : BegN (w ++ [(m : Int)]) (m + 1) := by
  refine ⟨begB_new h.beg, ?_, ?_⟩
  · rw [nF_app, h.nrm, h.met, normFrom, ltrs_new]
    show w ++ [((ltrs m).length : Int)] = _
    rw [ltrs_len]
  · rw [mB_app, h.met, metBy, ltrs_new]
    show ltrs m ++ [(m : Int)] = _
    rw [ltrs_s]
theorem pre_mem {g : Nat → LL} {u : List Int} : ∀ {n : Nat}, u ∈ preF g n → ∃ x, x < n ∧ u ∈ g x
  | 0, h => by cases h
  | n + 1, h => by
    rcases List.mem_append.1 h with h | h
    · obtain ⟨x, h1, h2⟩ := pre_mem h; exact ⟨x, by omega, h2⟩
    · exact ⟨n, by omega, h⟩
theorem fill_beg {n : Nat} : ∀ {d : Nat} {w : List Int} {m : Nat} {u : List Int}, BegN w m → m ≤ n → u ∈ fillL n d w m → ∃ k, k ≤ n ∧ BegN u k ∧ u.length = w.length + d
  | 0, w, m, u, h, hm, hu => by
    have : u = w := by simpa [fillL] using hu
    subst this
    exact ⟨m, hm, h, rfl⟩
  | d + 1, w, m, u, h, hm, hu => by
    rw [fillL_s] at hu
    obtain ⟨x, hx, hu⟩ := pre_mem hu
    unfold stepL at hu
    split at hu
    · rename_i hc
      have hla : (w ++ [(x : Int)]).length = w.length + 1 := by rw [List.length_append]; rfl
      by_cases hxm : x < m
      · have h1 : w.count (x : Int) = 1 := by have := h.beg.2 x hxm; omega
        rw [Nat.max_eq_left (by omega)] at hu
        obtain ⟨k, k1, k2, k3⟩ := fill_beg (h.old hxm h1) hm hu
        exact ⟨k, k1, k2, by omega⟩
      · have e : x = m := by omega
        subst e
        rw [Nat.max_eq_right (by omega)] at hu
        obtain ⟨k, k1, k2, k3⟩ := fill_beg h.new (by omega) hu
        exact ⟨k, k1, k2, by omega⟩
    · cases hu
theorem count_sum : ∀ {w : List Int} {m : Nat}, (∀ x ∈ w, 0 ≤ x ∧ x < (m : Int)) → ((List.range m).map fun i : Nat => w.count (i : Int)).sum = w.length
  | [], m, _ => by
    have e : ((List.range m).map fun i : Nat => ([] : List Int).count (i : Int)) = (List.range m).map fun _ => 0 := List.map_congr_left fun _ _ => by simp
    rw [e]
    generalize List.range m = l
    induction l with
    | nil => rfl
    | cons x l ih => simpa using ih
  | x :: w, m, h => by
    have ih := count_sum (w := w) (m := m) fun y hy => h y (List.mem_cons_of_mem _ hy)
    have hx := h x List.mem_cons_self
    rw [List.length_cons, ← ih]
    obtain ⟨k, rfl⟩ : ∃ k : Nat, x = k := ⟨x.toNat, by omega⟩
    have hk : k < m := by omega
    clear ih h hx
    induction m with
    | zero => omega
    | succ m ihm =>
      rw [List.range_succ, List.map_append, List.map_append, List.sum_append, List.sum_append]
      by_cases e : k = m
      · subst e
        have e2 : ((List.range k).map fun i : Nat => ((k : Int) :: w).count (i : Int)) = (List.range k).map fun i : Nat => w.count (i : Int) := List.map_congr_left fun i hi => by
          have := List.mem_range.1 hi
          rw [List.count_cons_of_ne (by omega)]
        rw [e2]; simp; omega
      · have := ihm (by omega)
        have e3 : ((k : Int) :: w).count (m : Int) = w.count (m : Int) := List.count_cons_of_ne (by omega)
        rw [this]; simp only [List.map_cons, List.map_nil, List.sum_cons, List.sum_nil, e3]; omega
theorem sum_le2 : ∀ {m : Nat} {f : Nat → Nat}, (∀ i, i < m → f i ≤ 2) → ((List.range m).map f).sum ≤ 2 * m
  | 0, f, _ => by simp
  | m + 1, f, h => by
    have h1 := sum_le2 (m := m) (f := f) fun i hi => h i (by omega)
    have h2 := h m (by omega)
    rw [List.range_succ, List.map_append, List.sum_append]
    simp only [List.map_cons, List.map_nil, List.sum_cons, List.sum_nil]; omega
theorem sum_full : ∀ {m : Nat} {f : Nat → Nat}, (∀ i, i < m → f i ≤ 2) → ((List.range m).map f).sum = 2 * m → ∀ i, i < m → f i = 2
  | 0, f, _, _, i, hi => by omega
  | m + 1, f, h, hs, i, hi => by
    have h1 := sum_le2 (m := m) (f := f) fun i hi => h i (by omega)
    have h2 := h m (by omega)
    rw [List.range_succ, List.map_append, List.sum_append] at hs
    simp only [List.map_cons, List.map_nil, List.sum_cons, List.sum_nil] at hs
    by_cases e : i = m
    · subst e; omega
    · exact sum_full (m := m) (fun j hj => h j (by omega)) (by omega) i (by omega)
theorem all_isW {n : Nat} (hn : n ≤ 6) {u : List Int} (hu : u ∈ allL n) : isW u = true ∧ u.length = 2 * n := by
  obtain ⟨k, hk, hb, hl⟩ := fill_beg BegN.nil (Nat.zero_le n) hu
  have hl : u.length = 2 * n := by simpa using hl
  have hs := count_sum hb.beg.1
  have hle : ∀ i, i < k → u.count (i : Int) ≤ 2 := fun i hi => (hb.beg.2 i hi).2
  have hkn : 2 * n ≤ 2 * k := by
    rw [← hl, ← hs]; exact sum_le2 hle
  have e : k = n := by omega
  subst e
  have h2 := sum_full hle (by rw [hs, hl])
  refine ⟨?_, hl⟩
  unfold isW
  have ht : twiceL u = true := by
    unfold twiceL
    rw [List.all_eq_true]
    intro x hx
    obtain ⟨h0, h1⟩ := hb.beg.1 x hx
    have := h2 x.toNat (by omega)
    rw [Int.toNat_of_nonneg h0] at this
    simpa using this
  rw [ht, decide_eq_true (show u.length ≤ 12 by omega), decide_eq_true (show normalL u = u from hb.nrm)]; rfl
def diaL (n : Nat) : LL := (allL n).filter fun w => decide (leastL w = w)
end Go.Proofs.YthfmlelodmcgkaaGreat.V
end
section
namespace Go.Proofs.YthfmlelodmcgkaaGreat.V
open Go
def sp_dia1 : List Cv → List Obj' → Tree
  | [.one (.ro (.int .i64) w)], [] => .need (w.length < 1099511627776 ∧ Go.Proofs.YthfmlelodmcgkaaGreat.K.normalL w = w) (.ret (vb (!decide (leastL w = w))) [])
  | _, _ => .fail
set_option maxHeartbeats 4000000 in
set_option maxRecDepth 100000 in
theorem good_dia1 : Good Tryz.prog 113 sp_dia1 := by
  refine good_ofF Tryz.func113 rfl _ rfl _ rfl (tab [c_isDia]) (fun X cs os0 K hok hos hK => ?_)
  clear hos; unfold sp_dia1 at hK
  split at hK
  case h_2 => exact hK.elim
  rename_i w
  refine ⟨by simp, by simp, ?_⟩
  simp only [go_sem] at hK hok
  simp (maxSteps := 4000000) only [go_sem, Tryz.f113, ↓brB_t, ↓brB_f, Nat.reduceAdd, Int.reduceLE, Int.reduceLT, Int.reduceNeg, decide_true, decide_false, Bool.and_self, Nat.succ_eq_add_one, Int.toNat_natCast, Nat.beq_refl, Bool.and_true, Bool.true_and, Bool.false_or, Bool.or_true, List.all_cons, List.all_nil, Nat.reduceMul, Nat.add_zero, Nat.zero_add, List.length_nil, List.length_cons, dite_true, List.nil_append, Nat.reduceBEq, reduceDIte, reduceIte, reduceCtorEq, Bool.or_false, Bool.true_or, Bool.and_false, Bool.false_and, Bool.not_true, Bool.not_false, Option.isSome_some, Option.isSome_none, Option.getD_some, List.getElem?_cons_zero, List.getElem?_cons_succ, eq_self, and_self, List.take_succ_cons, List.take_zero, List.drop_succ_cons, List.drop_zero]
  exact ⟨hK.1, ret0 hK.2⟩
def diaP (x : HT [Kn.sl 2 (.int .i64)]) : Option Bool := if (x.1 : List Int).length < 1099511627776 ∧ Go.Proofs.YthfmlelodmcgkaaGreat.K.normalL x.1 = x.1 then some (!decide (leastL x.1 = x.1)) else none
def p_dia1 : PF0 Tryz.prog := ⟨113, entB Tryz.func113 rfl rfl, [.sl 2 (.int .i64)], .bool, diaP, sp_dia1, good_dia1, fun xs y h K hK => by
  unfold diaP at h
  split at h
  · rename_i hc
    injection h with h; subst h
    exact ⟨hc, hK⟩
  · cases h⟩
@[go_sem] theorem p_dia1_f : p_dia1.f = 113 := rfl
@[go_sem] theorem p_dia1_v : Rv.val (.one (.pf p_dia1.ks p_dia1.r p_dia1.g)) = Rv.val (.one (.pf [.sl 2 (.int .i64)] .bool diaP)) := rfl
theorem dia_flt {n : Nat} (hn : n ≤ 6) : (∀ x ∈ allL n, (diaP (x, ())).isSome = true) ∧ ((allL n).filter fun x => !tstD diaP x) = diaL n := by
  have key : ∀ x ∈ allL n, diaP (x, ()) = some (!decide (leastL x = x)) := fun x hx => by
    obtain ⟨h1, h2⟩ := all_isW hn hx
    exact if_pos ⟨by show x.length < _; omega, isW_normal h1⟩
  refine ⟨fun x hx => by rw [key x hx]; rfl, List.filter_congr fun x hx => ?_⟩
  unfold tstD
  rw [key x hx]
  show (!!decide (leastL x = x)) = _
  rw [Bool.not_not]
def sp_dias : List Cv → List Obj' → Tree
  | [.one (.v (.int .i64 n))], [] => .need (0 ≤ n ∧ n ≤ 5) (.ret (ow 0) [.drow 26 (.sl 2 (.int .i64)) (diaL n.toNat)])
  | _, _ => .fail
set_option maxHeartbeats 4000000 in
set_option maxRecDepth 100000 in
theorem good_dias : Good Tryz.prog 73 sp_dias := by
  refine good_ofF Tryz.func73 rfl _ rfl _ rfl (tab [c_words, c_deleteR] [p_dia1]) (fun X cs os0 K hok hos hK => ?_)
  clear hos; unfold sp_dias at hK
  split at hK
  case h_2 => exact hK.elim
  rename_i n
  refine ⟨by simp, by simp, ?_⟩
  simp only [go_sem] at hK hok
  simp (maxSteps := 4000000) only [go_sem, Tryz.f73, ↓brB_t, ↓brB_f, Nat.reduceAdd, Int.reduceLE, Int.reduceLT, Int.reduceNeg, decide_true, decide_false, Bool.and_self, Nat.succ_eq_add_one, Int.toNat_natCast, Nat.beq_refl, Bool.and_true, Bool.true_and, Bool.false_or, Bool.or_true, List.all_cons, List.all_nil, Nat.reduceMul, Nat.add_zero, Nat.zero_add, List.length_nil, List.length_cons, dite_true, List.nil_append, Nat.reduceBEq, reduceDIte, reduceIte, reduceCtorEq, Bool.or_false, Bool.true_or, Bool.and_false, Bool.false_and, Bool.not_true, Bool.not_false, Option.isSome_some, Option.isSome_none, Option.getD_some, List.getElem?_cons_zero, List.getElem?_cons_succ, eq_self, and_self, List.take_succ_cons, List.take_zero, List.drop_succ_cons, List.drop_zero]
  obtain ⟨⟨h0, h5⟩, hK⟩ := hK
  clear hok
  obtain ⟨N, rfl⟩ : ∃ N : Nat, n = N := ⟨n.toNat, by omega⟩
  rw [Int.toNat_natCast] at hK ⊢
  have hl := allL_len (N := N) (by omega)
  have hf := dia_flt (n := N) (by omega)
  rw [hf.2]
  exact ⟨⟨h0, h5⟩, ⟨by omega, hf.1⟩, retN [96] rfl hK⟩
def c_dias : Ctr Tryz.prog := ⟨73, ent Tryz.func73 rfl rfl, [], sp_dias, good_dias, []⟩
@[go_sem] theorem c_dias_f : c_dias.f = 73 := rfl
@[go_sem] theorem c_dias_ms : c_dias.ms = [] := rfl
@[go_sem] theorem c_dias_sp : c_dias.spec = sp_dias := rfl
@[go_sem] theorem c_dias_fz : c_dias.fz = [] := rfl
attribute [go_sem] sp_dias
def sp_diasS : List Cv → List Obj' → Tree
  | [.one (.v (.int .i64 n))], [] => .need (0 ≤ n ∧ n ≤ 5) (.ret (.val (.one (.ro (.sl 2 (.int .i64)) (diaL n.toNat)))) [])
  | _, _ => .fail
set_option maxHeartbeats 4000000 in
set_option maxRecDepth 100000 in
theorem good_diasS : Good Tryz.prog 50 sp_diasS := by
  refine good_ofF Tryz.func50 rfl _ rfl _ rfl (tab [c_all, c_leastS, c_l01Same]) (fun X cs os0 K hok hos hK => ?_)
  clear hos; unfold sp_diasS at hK
  split at hK
  case h_2 => exact hK.elim
  rename_i n
  refine ⟨by simp, by simp, ?_⟩
  simp only [go_sem] at hK hok
  simp (maxSteps := 4000000) only [go_sem, Tryz.f50, ↓brB_t, ↓brB_f, Nat.reduceAdd, Int.reduceLE, Int.reduceLT, Int.reduceNeg, decide_true, decide_false, Bool.and_self, Nat.succ_eq_add_one, Int.toNat_natCast, Nat.beq_refl, Bool.and_true, Bool.true_and, Bool.false_or, Bool.or_true, List.all_cons, List.all_nil, Nat.reduceMul, Nat.add_zero, Nat.zero_add, List.length_nil, List.length_cons, dite_true, List.nil_append, Nat.reduceBEq, reduceDIte, reduceIte, reduceCtorEq, Bool.or_false, Bool.true_or, Bool.and_false, Bool.false_and, Bool.not_true, Bool.not_false, Option.isSome_some, Option.isSome_none, Option.getD_some, List.getElem?_cons_zero, List.getElem?_cons_succ, eq_self, and_self, List.take_succ_cons, List.take_zero, List.drop_succ_cons, List.drop_zero]
  obtain ⟨⟨h0, h5⟩, hK⟩ := hK
  clear hok
  obtain ⟨N, rfl⟩ : ∃ N : Nat, n = N := ⟨n.toNat, by omega⟩
  rw [Int.toNat_natCast] at hK ⊢
  have hl := allL_len (N := N) (by omega)
  refine ⟨⟨h0, h5⟩, ?_⟩
  refine holds_sub (sub_flat (i := 144) (t := tRR) (k := kR) rfl) ?_
  refine loop_okF (T := tab [c_all, c_leastS, c_l01Same]) [0, 3, 4, 5] [(16, 144)] (fun i : Nat => ⟨33, [(0, vi N), (3, .val (.one (.ro kR (allL N)))), (4, ow 16), (5, vi i)], [(16, .row tRR kR (((allL N).take i).filter fun w => decide (leastL w = w)))]⟩)
    (fun i => i ≤ (allL N).length) (fun i => (allL N).length - i) 0 rfl rfl (Nat.zero_le _) (fun i hi => ?_)
  simp only [go_sem, ↓brB_t, ↓brB_f, Nat.reduceAdd, Int.reduceLE, Int.reduceLT, Int.reduceNeg, decide_true, decide_false, Bool.and_self, Nat.succ_eq_add_one, Int.toNat_natCast, Nat.beq_refl, Bool.and_true, Bool.true_and, Bool.false_or, Bool.or_true, List.all_cons, List.all_nil, Nat.reduceMul, Nat.add_zero, Nat.zero_add, List.length_nil, List.length_cons, dite_true, List.nil_append, Nat.reduceBEq, reduceDIte, reduceIte, reduceCtorEq, Bool.or_false, Bool.true_or, Bool.and_false, Bool.false_and, Bool.not_true, Bool.not_false, Option.isSome_some, Option.isSome_none, Option.getD_some, List.getElem?_cons_zero, List.getElem?_cons_succ, eq_self, and_self, List.take_succ_cons, List.take_zero, List.drop_succ_cons, List.drop_zero]
  have hfl := List.length_filter_le (fun w => decide (leastL w = w)) ((allL N).take i)
  rw [List.length_take] at hfl
  have hfb : (((allL N).take i).filter fun w => decide (leastL w = w)).length + 1 ≤ 1099511627776 := by omega
  refine brB_intro (fun h1 => ?_) (fun h1 => ?_)
  · have h1 := of_decide_eq_true h1
    have hi1 : i < (allL N).length := by omega
    have hw1 : w64 ((i : Int) + 1) = ((i + 1 : Nat) : Int) := w64_id (by omega) (by omega)
    have hg : (allL N).getD i [] = (allL N)[i] := by rw [List.getD_eq_getElem?_getD, List.getElem?_eq_getElem hi1]; rfl
    obtain ⟨k1, k2⟩ := all_isW (n := N) (by omega) (List.getElem_mem hi1)
    have hfs : ((allL N).take (i + 1)).filter (fun w => decide (leastL w = w)) = ((allL N).take i).filter (fun w => decide (leastL w = w)) ++ if decide (leastL (allL N)[i] = (allL N)[i]) then [(allL N)[i]] else [] := by
      rw [List.take_succ_eq_append_getElem hi1, List.filter_append, List.filter_cons]
      split <;> rfl
    rw [hg, hw1]
    have hn := isW_normal k1
    have hw12 := isW_l12 k1
    generalize (allL N)[i] = w at *
    refine ⟨⟨by omega, by omega⟩, ⟨Nat.lt_of_le_of_lt hw12 (by decide), hn⟩, ⟨by omega, by omega⟩, by kernel_rfl, brB_intro (fun h2 => ?_) (fun h2 => ?_)⟩
    · rw [if_pos h2] at hfs
      refine ⟨⟨by omega, by omega⟩, hfb, i + 1, [(16, 512)], by omega, by omega, rfl, ?_⟩
      rw [hfs]; rfl
    · rw [if_neg (by rw [h2]; decide), List.append_nil] at hfs
      refine ⟨i + 1, [(16, 16)], by omega, by omega, rfl, ?_⟩
      rw [hfs]; rfl
  · have h1 := of_decide_eq_false h1
    have e : i = (allL N).length := by omega
    rw [e, List.take_length]
    exact retN [] rfl hK
def c_diasS : Ctr Tryz.prog := ⟨50, ent Tryz.func50 rfl rfl, [], sp_diasS, good_diasS, []⟩
@[go_sem] theorem c_diasS_f : c_diasS.f = 50 := rfl
@[go_sem] theorem c_diasS_ms : c_diasS.ms = [] := rfl
@[go_sem] theorem c_diasS_sp : c_diasS.spec = sp_diasS := rfl
@[go_sem] theorem c_diasS_fz : c_diasS.fz = [] := rfl
attribute [go_sem] sp_diasS
end Go.Proofs.YthfmlelodmcgkaaGreat.V
end
section
namespace Go.Proofs.YthfmlelodmcgkaaGreat.V
open Go
def sp_empty : List Cv → List Obj' → Tree
  | [.one (.v (.int .i64 p))], [] => .ret (.val (.agg [.v (.int .i64 p), .own 0])) [.drow 87 (.pr (.sl 2 (.int .i64)) (.int .i64)) []]
  | _, _ => .fail
set_option maxHeartbeats 4000000 in
set_option maxRecDepth 100000 in
theorem good_l03Empty : Good Tryz.prog 84 sp_empty := by
  refine good_ofF Tryz.func84 rfl _ rfl _ rfl (tab []) (fun X cs os0 K hok hos hK => ?_)
  clear hos; unfold sp_empty at hK
  split at hK
  case h_2 => exact hK.elim
  rename_i p
  refine ⟨by simp, by simp, ?_⟩
  simp only [go_sem] at hK hok
  simp (maxSteps := 4000000) only [go_sem, Tryz.f84, ↓brB_t, ↓brB_f, Nat.reduceAdd, Int.reduceLE, Int.reduceLT, Int.reduceNeg, decide_true, decide_false, Bool.and_self, Nat.succ_eq_add_one, Int.toNat_natCast, Nat.beq_refl, Bool.and_true, Bool.true_and, Bool.false_or, Bool.or_true, List.all_cons, List.all_nil, Nat.reduceMul, Nat.add_zero, Nat.zero_add, List.length_nil, List.length_cons, dite_true, List.nil_append, Nat.reduceBEq, reduceDIte, reduceIte, reduceCtorEq, Bool.or_false, Bool.true_or, Bool.and_false, Bool.false_and, Bool.not_true, Bool.not_false, Option.isSome_some, Option.isSome_none, Option.getD_some, List.getElem?_cons_zero, List.getElem?_cons_succ, eq_self, and_self, List.take_succ_cons, List.take_zero, List.drop_succ_cons, List.drop_zero]
  clear hok
  exact retN [80] rfl hK
def c_l03Empty : Ctr Tryz.prog := ⟨84, ent Tryz.func84 rfl rfl, [], sp_empty, good_l03Empty, []⟩
@[go_sem] theorem c_l03Empty_f : c_l03Empty.f = 84 := rfl
@[go_sem] theorem c_l03Empty_ms : c_l03Empty.ms = [] := rfl
@[go_sem] theorem c_l03Empty_sp : c_l03Empty.spec = sp_empty := rfl
@[go_sem] theorem c_l03Empty_fz : c_l03Empty.fz = [] := rfl
attribute [go_sem] sp_empty
def atT : TermL → List Int → Int
  | [], _ => 0
  | x :: r, w => if x.1 = w then x.2 else atT r w
def sp_at : List Cv → List Obj' → Tree
  | [.agg [.v (.int .i64 p), .ro (.pr (.sl 2 (.int .i64)) (.int .i64)) ts], .one (.ro (.int .i64) w)], [] => .ret (vi (atT ts w)) []
  | _, _ => .fail
theorem atT_s {ts : TermL} {w : List Int} {i : Nat} (h : i < ts.length) : atT (ts.drop i) w = if (ts.getD i ([], 0)).1 = w then (ts.getD i ([], 0)).2 else atT (ts.drop (i + 1)) w := by
  have e : ts.getD i ([], 0) = ts[i] := by rw [List.getD_eq_getElem?_getD, List.getElem?_eq_getElem h]; rfl
  rw [List.drop_eq_getElem_cons h, atT, e]
set_option maxHeartbeats 4000000 in
set_option maxRecDepth 100000 in
theorem good_l03At : Good Tryz.prog 83 sp_at := by
  refine good_ofF Tryz.func83 rfl _ rfl _ rfl (tab [c_l01Same]) (fun X cs os0 K hok hos hK => ?_)
  clear hos; unfold sp_at at hK
  split at hK
  case h_2 => exact hK.elim
  rename_i p ts w
  refine ⟨by simp, by simp, ?_⟩
  simp only [go_sem] at hK hok
  simp (maxSteps := 4000000) only [go_sem, Tryz.f83, ↓brB_t, ↓brB_f, Nat.reduceAdd, Int.reduceLE, Int.reduceLT, Int.reduceNeg, decide_true, decide_false, Bool.and_self, Nat.succ_eq_add_one, Int.toNat_natCast, Nat.beq_refl, Bool.and_true, Bool.true_and, Bool.false_or, Bool.or_true, List.all_cons, List.all_nil, Nat.reduceMul, Nat.add_zero, Nat.zero_add, List.length_nil, List.length_cons, dite_true, List.nil_append, Nat.reduceBEq, reduceDIte, reduceIte, reduceCtorEq, Bool.or_false, Bool.true_or, Bool.and_false, Bool.false_and, Bool.not_true, Bool.not_false, Option.isSome_some, Option.isSome_none, Option.getD_some, List.getElem?_cons_zero, List.getElem?_cons_succ, eq_self, and_self, List.take_succ_cons, List.take_zero, List.drop_succ_cons, List.drop_zero]
  have hl := len_i hok.1.2.1.1
  clear hok
  refine loop_okF (T := tab [c_l01Same]) [1, 2, 5] [(16, 48)] (fun i : Nat => ⟨27, [(1, ri w), (2, .val (.one (.ptr 16 0))), (5, vi i)], [(16, .box 31 [.v (.int .i64 p), .ro kTerm ts])]⟩)
    (fun i => i ≤ ts.length ∧ atT ts w = atT (ts.drop i) w) (fun i => ts.length - i) 0 rfl rfl ⟨Nat.zero_le _, rfl⟩ (fun i hi => ?_)
  obtain ⟨hi, hm⟩ := hi
  simp only [go_sem, ↓brB_t, ↓brB_f, Nat.reduceAdd, Int.reduceLE, Int.reduceLT, Int.reduceNeg, decide_true, decide_false, Bool.and_self, Nat.succ_eq_add_one, Int.toNat_natCast, Nat.beq_refl, Bool.and_true, Bool.true_and, Bool.false_or, Bool.or_true, List.all_cons, List.all_nil, Nat.reduceMul, Nat.add_zero, Nat.zero_add, List.length_nil, List.length_cons, dite_true, List.nil_append, Nat.reduceBEq, reduceDIte, reduceIte, reduceCtorEq, Bool.or_false, Bool.true_or, Bool.and_false, Bool.false_and, Bool.not_true, Bool.not_false, Option.isSome_some, Option.isSome_none, Option.getD_some, List.getElem?_cons_zero, List.getElem?_cons_succ, eq_self, and_self, List.take_succ_cons, List.take_zero, List.drop_succ_cons, List.drop_zero]
  refine brB_intro (fun h1 => ?_) (fun h1 => ret0 ?_)
  · have h1 := of_decide_eq_true h1
    have hw : w64 ((i : Int) + 1) = ((i + 1 : Nat) : Int) := w64_s (n := ts.length) (by omega) hl
    have hs := atT_s (ts := ts) (w := w) (i := i) (by omega)
    refine ⟨⟨by omega, by omega⟩, brB_intro (fun h2 => ⟨⟨by omega, by omega⟩, ret0 ?_⟩) (fun h2 => ⟨i + 1, [(16, 16)], ⟨by omega, ?_⟩, by omega, rfl, by rw [hw]; rfl⟩)⟩
    · rw [if_pos (of_decide_eq_true h2)] at hs
      rw [hm, hs] at hK; exact hK
    · rw [if_neg (of_decide_eq_false h2)] at hs
      rw [hm, hs]
  · have h1 := of_decide_eq_false h1
    have e : i = ts.length := by omega
    rw [e, List.drop_length] at hm
    rw [hm] at hK; exact hK
def c_l03At : Ctr Tryz.prog := ⟨83, ent Tryz.func83 rfl rfl, [], sp_at, good_l03At, []⟩
@[go_sem] theorem c_l03At_f : c_l03At.f = 83 := rfl
@[go_sem] theorem c_l03At_ms : c_l03At.ms = [] := rfl
@[go_sem] theorem c_l03At_sp : c_l03At.spec = sp_at := rfl
@[go_sem] theorem c_l03At_fz : c_l03At.fz = [] := rfl
attribute [go_sem] sp_at
end Go.Proofs.YthfmlelodmcgkaaGreat.V
end
section
namespace Go.Proofs.YthfmlelodmcgkaaGreat.V
open Go
def jA (w : List Int) (v : Int) (s : TermL × Bool) (x : List Int × Int) : TermL × Bool := if !s.2 && beforeB w x.1 then (s.1 ++ [(w, v)], true) else s
def jB (w : List Int) (s : TermL × Bool) (x : List Int × Int) : TermL × Bool := if x.1 = w then s else (s.1 ++ [x], s.2)
def jF (w : List Int) (v : Int) (l : TermL) : TermL × Bool := l.foldl (fun s x => jB w (jA w v s x) x) ([], decide (v = 0))
def jE (w : List Int) (v : Int) (s : TermL × Bool) : TermL := if s.2 then s.1 else s.1 ++ [(w, v)]
def jT (p : Int) (ts : TermL) (w : List Int) (v : Int) : TermL := jE w (modI p (w64 (v + atT ts w))) (jF w (modI p (w64 (v + atT ts w))) ts)
theorem jF_s {w : List Int} {v : Int} {ts : TermL} {i : Nat} (h : i < ts.length) : jF w v (ts.take (i + 1)) = jB w (jA w v (jF w v (ts.take i)) (ts.getD i ([], 0))) (ts.getD i ([], 0)) := by
  have e : ts.getD i ([], 0) = ts[i] := by rw [List.getD_eq_getElem?_getD, List.getElem?_eq_getElem h]; rfl
  rw [jF, List.take_succ_eq_append_getElem h, List.foldl_append, e]; rfl
theorem jF_len {w : List Int} {v : Int} (ts : TermL) (i : Nat) : (jF w v (ts.take i)).1.length ≤ 2 * i := by
  induction i with
  | zero => simp [jF]
  | succ i ih =>
    by_cases h : i < ts.length
    · rw [jF_s h]
      generalize jF w v (ts.take i) = s at *
      unfold jB jA
      split <;> split <;> first | omega | (simp only [List.length_append, List.length_singleton]; omega)
    · rw [List.take_of_length_le (by omega)] at ih ⊢
      omega
def sp_put : List Cv → List Obj' → Tree
  | [.agg [.v (.int .i64 p), .ro (.pr (.sl 2 (.int .i64)) (.int .i64)) ts], .one (.ro (.int .i64) w), .one (.v (.int .i64 v))], [] => .need (p ≠ 0 ∧ ts.length ≤ 1000000 ∧ w.length < 1099511627776 ∧ ∀ x ∈ (ts : TermL), x.1.length < 1099511627776) (.ret (.val (.agg [.v (.int .i64 p), .own 0])) [.drow 87 (.pr (.sl 2 (.int .i64)) (.int .i64)) (jT p ts w v)])
  | _, _ => .fail
set_option maxHeartbeats 4000000 in
set_option maxRecDepth 100000 in
theorem good_l03Put : Good Tryz.prog 85 sp_put := by
  refine good_ofF Tryz.func85 rfl _ rfl _ rfl (tab [c_l03Empty, c_l03At, c_l03Mod, c_l01Before, c_l01Same, c_own]) (fun X cs os0 K hok hos hK => ?_)
  clear hos; unfold sp_put at hK
  split at hK
  case h_2 => exact hK.elim
  rename_i p ts w v
  refine ⟨by simp, by simp, ?_⟩
  simp only [go_sem] at hK hok
  simp (maxSteps := 4000000) only [go_sem, Tryz.f85, ↓brB_t, ↓brB_f, Nat.reduceAdd, Int.reduceLE, Int.reduceLT, Int.reduceNeg, decide_true, decide_false, Bool.and_self, Nat.succ_eq_add_one, Int.toNat_natCast, Nat.beq_refl, Bool.and_true, Bool.true_and, Bool.false_or, Bool.or_true, List.all_cons, List.all_nil, Nat.reduceMul, Nat.add_zero, Nat.zero_add, List.length_nil, List.length_cons, dite_true, List.nil_append, Nat.reduceBEq, reduceDIte, reduceIte, reduceCtorEq, Bool.or_false, Bool.true_or, Bool.and_false, Bool.false_and, Bool.not_true, Bool.not_false, Option.isSome_some, Option.isSome_none, Option.getD_some, List.getElem?_cons_zero, List.getElem?_cons_succ, eq_self, and_self, List.take_succ_cons, List.take_zero, List.drop_succ_cons, List.drop_zero]
  obtain ⟨⟨hp, hl, hw, hx⟩, hK⟩ := hK
  clear hok
  unfold jT at hK
  generalize hv : modI p (w64 (v + atT ts w)) = v' at *
  refine ⟨hp, by kernel_rfl, ?_⟩
  refine loop_okF (T := tab [c_l03Empty, c_l03At, c_l03Mod, c_l01Before, c_l01Same, c_own]) [1, 2, 3, 6, 7, 8, 9] [(16, 64), (17, 112), (18, 128), (19, 224)] (fun i : Nat => ⟨81, [(1, ri w), (2, vi v'), (3, .val (.one (.ptr 16 0))), (6, .val (.one (.ptr 17 0))), (7, .val (.one (.ptr 18 0))), (8, vb (jF w v' (ts.take i)).2), (9, vi i)],
      [(16, .box 31 [.v (.int .i64 p), .ro kTerm ts]), (17, .box 31 [.v (.int .i64 0), .v (.slice none 0 0)]), (18, .box 31 [.v (.int .i64 p), .own 19]), (19, .drow tI kTerm (jF w v' (ts.take i)).1)]⟩)
    (fun i => i ≤ ts.length) (fun i => ts.length - i) 0 rfl rfl (Nat.zero_le _) (fun i hi => ?_)
  have hjl := jF_len (w := w) (v := v') ts i
  have hjs : i < ts.length → jF w v' (ts.take (i + 1)) = _ := fun h => jF_s h
  generalize hgs : jF w v' (ts.take i) = s at *
  simp only [go_sem, ↓brB_t, ↓brB_f, Nat.reduceAdd, Int.reduceLE, Int.reduceLT, Int.reduceNeg, decide_true, decide_false, Bool.and_self, Nat.succ_eq_add_one, Int.toNat_natCast, Nat.beq_refl, Bool.and_true, Bool.true_and, Bool.false_or, Bool.or_true, List.all_cons, List.all_nil, Nat.reduceMul, Nat.add_zero, Nat.zero_add, List.length_nil, List.length_cons, dite_true, List.nil_append, Nat.reduceBEq, reduceDIte, reduceIte, reduceCtorEq, Bool.or_false, Bool.true_or, Bool.and_false, Bool.false_and, Bool.not_true, Bool.not_false, Option.isSome_some, Option.isSome_none, Option.getD_some, List.getElem?_cons_zero, List.getElem?_cons_succ, eq_self, and_self, List.take_succ_cons, List.take_zero, List.drop_succ_cons, List.drop_zero]
  refine brB_intro (fun h1 => ?_) (fun h1 => ?_)
  · have h1 := of_decide_eq_true h1
    have hs := hjs (by omega)
    have hw1 : w64 ((i : Int) + 1) = ((i + 1 : Nat) : Int) := w64_s (n := ts.length) (by omega) (by omega)
    have hxl := hx _ (getD_memT (show i < ts.length by omega))
    have hl2 : (s.1 ++ [(w, v')]).length = s.1.length + 1 := by rw [List.length_append]; rfl
    clear hjs hgs hv
    refine ⟨⟨by omega, by omega⟩, brB_intro (fun h2 => brB_intro (fun h3 => ⟨hw, by omega, by kernel_rfl, brB_intro (fun h4 => ⟨hxl, by rw [hl2]; omega, by kernel_rfl, i + 1, [(16, 16), (17, 17), (18, 18), (19, 1088)], by omega, by omega, rfl, ?_⟩) (fun h4 => ⟨i + 1, [(16, 16), (17, 17), (18, 18), (19, 832)], by omega, by omega, rfl, ?_⟩)⟩)
      (fun h3 => brB_intro (fun h4 => ⟨hxl, by omega, by kernel_rfl, i + 1, [(16, 16), (17, 17), (18, 18), (19, 1088)], by omega, by omega, rfl, ?_⟩) (fun h4 => ⟨i + 1, [(16, 16), (17, 17), (18, 18), (19, 19)], by omega, by omega, rfl, ?_⟩)))
      (fun h2 => brB_intro (fun h4 => ⟨hxl, by omega, by kernel_rfl, i + 1, [(16, 16), (17, 17), (18, 18), (19, 1088)], by omega, by omega, rfl, ?_⟩) (fun h4 => ⟨i + 1, [(16, 16), (17, 17), (18, 18), (19, 19)], by omega, by omega, rfl, ?_⟩))⟩
    · rw [jA, h2, Bool.true_and, if_pos h3, jB, if_neg (of_decide_eq_false (snb h4))] at hs
      rw [hw1, hs]; rfl
    · rw [jA, h2, Bool.true_and, if_pos h3, jB, if_pos (of_decide_eq_true (snb' h4))] at hs
      rw [hw1, hs]; rfl
    · rw [jA, h2, Bool.true_and, if_neg (by rw [h3]; decide), jB, if_neg (of_decide_eq_false (snb h4))] at hs
      rw [hw1, hs]; rfl
    · rw [jA, h2, Bool.true_and, if_neg (by rw [h3]; decide), jB, if_pos (of_decide_eq_true (snb' h4))] at hs
      rw [hw1, hs]; rfl
    · rw [jA, h2, Bool.false_and, if_neg (by decide), jB, if_neg (of_decide_eq_false (snb h4))] at hs
      rw [hw1, hs]; rfl
    · rw [jA, h2, Bool.false_and, if_neg (by decide), jB, if_pos (of_decide_eq_true (snb' h4))] at hs
      rw [hw1, hs]; rfl
  · have h1 := of_decide_eq_false h1
    have e : i = ts.length := by omega
    rw [e, List.take_length] at hgs
    rw [hgs] at hK
    refine brB_intro (fun h2 => ⟨hw, by omega, by kernel_rfl, retN [1264] rfl ?_⟩) (fun h2 => retN [19] rfl ?_)
    · rw [jE, if_neg (by rw [snb h2]; decide)] at hK; exact hK
    · rw [jE, if_pos (snb' h2)] at hK; exact hK
def c_l03Put : Ctr Tryz.prog := ⟨85, ent Tryz.func85 rfl rfl, [], sp_put, good_l03Put, []⟩
@[go_sem] theorem c_l03Put_f : c_l03Put.f = 85 := rfl
@[go_sem] theorem c_l03Put_ms : c_l03Put.ms = [] := rfl
@[go_sem] theorem c_l03Put_sp : c_l03Put.spec = sp_put := rfl
@[go_sem] theorem c_l03Put_fz : c_l03Put.fz = [] := rfl
attribute [go_sem] sp_put
end Go.Proofs.YthfmlelodmcgkaaGreat.V
end
section
namespace Go.Proofs.YthfmlelodmcgkaaGreat.V
open Go
theorem jF_len1 {w : List Int} {v : Int} (ts : TermL) (i : Nat) : (jF w v (ts.take i)).1.length ≤ i + (if (jF w v (ts.take i)).2 then 1 else 0) := by
  induction i with
  | zero => simp [jF]
  | succ i ih =>
    by_cases h : i < ts.length
    · rw [jF_s h]
      generalize jF w v (ts.take i) = s at *
      obtain ⟨a, b⟩ := s
      unfold jB jA
      cases b <;> simp only [Bool.not_true, Bool.not_false, Bool.true_and, Bool.false_and] at * <;> split <;> split <;> simp_all <;> omega
    · rw [List.take_of_length_le (by omega)] at ih ⊢
      omega
theorem jT_len (p : Int) (ts : TermL) (w : List Int) (v : Int) : (jT p ts w v).length ≤ ts.length + 1 := by
  have h := jF_len1 (w := w) (v := modI p (w64 (v + atT ts w))) ts ts.length
  rw [List.take_length] at h
  unfold jT jE
  split
  · rename_i e; rw [if_pos e] at h; exact h
  · rename_i e; rw [if_neg e] at h; rw [List.length_append]; simp; omega
theorem jF_mem {w : List Int} {v : Int} (ts : TermL) (i : Nat) : ∀ x ∈ (jF w v (ts.take i)).1, x = (w, v) ∨ x ∈ ts := by
  induction i with
  | zero => simp [jF]
  | succ i ih =>
    by_cases h : i < ts.length
    · rw [jF_s h]
      have hx := getD_memT h
      generalize jF w v (ts.take i) = s at *
      generalize ts.getD i ([], 0) = y at *
      intro x hm
      have key : ∀ s' : TermL × Bool, (∀ x ∈ s'.1, x = (w, v) ∨ x ∈ ts) → ∀ x ∈ (jB w s' y).1, x = (w, v) ∨ x ∈ ts := fun s' h' x hm => by
        unfold jB at hm
        split at hm
        · exact h' x hm
        · rcases List.mem_append.1 hm with hm | hm
          · exact h' x hm
          · rw [List.mem_singleton] at hm; exact .inr (hm ▸ hx)
      refine key _ (fun x hm => ?_) x hm
      unfold jA at hm
      split at hm
      · rcases List.mem_append.1 hm with hm | hm
        · exact ih x hm
        · rw [List.mem_singleton] at hm; exact .inl hm
      · exact ih x hm
    · rw [List.take_of_length_le (by omega)] at ih ⊢
      exact ih
theorem jT_mem {p : Int} {ts : TermL} {w : List Int} {v : Int} {x : List Int × Int} (h : x ∈ jT p ts w v) : x.1 = w ∨ x ∈ ts := by
  have hm := jF_mem (w := w) (v := modI p (w64 (v + atT ts w))) ts ts.length
  rw [List.take_length] at hm
  unfold jT jE at h
  split at h
  · exact (hm x h).imp (fun e => by rw [e]) id
  · rcases List.mem_append.1 h with h | h
    · exact (hm x h).imp (fun e => by rw [e]) id
    · rw [List.mem_singleton] at h; exact .inl (by rw [h])
end Go.Proofs.YthfmlelodmcgkaaGreat.V
end
section
namespace Go.Proofs.YthfmlelodmcgkaaGreat.V
open Go
attribute [go_sem] sp_nan
attribute [go_sem] sp_cmp
def orL : List Int → Int
  | [] => 0
  | x :: r => if x = 0 then orL r else x
theorem order_before (a b : List Int) : decide (0 ≤ orL [cmpI a.length b.length, cmpL a b]) = !beforeB a b := by
  rw [beforeB, orL]
  by_cases e : a.length = b.length
  · have e0 : cmpI (a.length : Int) b.length = 0 := by rw [cmpI, if_neg (by omega), if_neg (by omega)]
    rw [if_pos e0, if_pos e, ← cmpL_lex e, orL]
    split
    · rename_i h; rw [h]; rfl
    · rfl
  · rw [if_neg e]
    by_cases l : a.length < b.length
    · have e1 : cmpI (a.length : Int) b.length = -1 := by rw [cmpI, if_pos (by omega)]
      rw [e1, if_neg (by omega), decide_eq_true l]; rfl
    · have e1 : cmpI (a.length : Int) b.length = 1 := by rw [cmpI, if_neg (by omega), if_pos (by omega)]
      rw [e1, if_neg (by omega), decide_eq_false l]; rfl
end Go.Proofs.YthfmlelodmcgkaaGreat.V
end
section
namespace Go.Proofs.YthfmlelodmcgkaaGreat.V
open Go
abbrev kTm : Kn := .pr (.sl 2 (.int .i64)) (.int .i64)
def sp_atI : List Cv → List Obj' → Tree
  | [.one (.ptr 0 0), .one (.ro (.int .i64) w)], [.box t [.v (.int .i64 p), .ro (.pr (.sl 2 (.int .i64)) (.int .i64)) ts]] => .need ((ts.length : Int) ≤ 9223372036854775807) (.ret (vi (atT ts w)) [.box t [.v (.int .i64 p), .ro (.pr (.sl 2 (.int .i64)) (.int .i64)) ts]])
  | _, _ => .fail
set_option maxHeartbeats 4000000 in
set_option maxRecDepth 100000 in
theorem good_atI : Good Tryz.prog 94 sp_atI := by
  refine good_ofF Tryz.func94 rfl _ rfl _ rfl (tab [c_equal]) (fun X cs os0 K hok hos hK => ?_)
  unfold sp_atI at hK
  split at hK
  case h_2 => exact hK.elim
  rename_i w t p ts
  refine ⟨by simp, by simp, ?_⟩
  simp only [go_sem] at hK hok hos
  simp (maxSteps := 4000000) only [go_sem, Tryz.f94, ↓brB_t, ↓brB_f, Nat.reduceAdd, Int.reduceLE, Int.reduceLT, Int.reduceNeg, decide_true, decide_false, Bool.and_self, Nat.succ_eq_add_one, Int.toNat_natCast, Nat.beq_refl, Bool.and_true, Bool.true_and, Bool.false_or, Bool.or_true, List.all_cons, List.all_nil, Nat.reduceMul, Nat.add_zero, Nat.zero_add, List.length_nil, List.length_cons, dite_true, List.nil_append, Nat.reduceBEq, reduceDIte, reduceIte, reduceCtorEq, Bool.or_false, Bool.true_or, Bool.and_false, Bool.false_and, Bool.not_true, Bool.not_false, Option.isSome_some, Option.isSome_none, Option.getD_some, List.getElem?_cons_zero, List.getElem?_cons_succ, eq_self, and_self, List.take_succ_cons, List.take_zero, List.drop_succ_cons, List.drop_zero]
  obtain ⟨hl, hK⟩ := hK
  clear hok hos
  refine loop_okF (T := tab [c_equal]) [0, 1, 10, 11, 12] [(0, 0)] (fun i : Nat => ⟨23, [(0, .val (.one (.ptr 0 0))), (1, ri w), (10, .val (.one (.ro kTm ts))), (11, vi ts.length), (12, vi i)], [(0, .box t [.v (.int .i64 p), .ro kTm ts])]⟩)
    (fun i => i ≤ ts.length ∧ atT ts w = atT (ts.drop i) w) (fun i => ts.length - i) 0 rfl rfl ⟨Nat.zero_le _, rfl⟩ (fun i hi => ?_)
  obtain ⟨hi, hm⟩ := hi
  simp only [go_sem, ↓brB_t, ↓brB_f, Nat.reduceAdd, Int.reduceLE, Int.reduceLT, Int.reduceNeg, decide_true, decide_false, Bool.and_self, Nat.succ_eq_add_one, Int.toNat_natCast, Nat.beq_refl, Bool.and_true, Bool.true_and, Bool.false_or, Bool.or_true, List.all_cons, List.all_nil, Nat.reduceMul, Nat.add_zero, Nat.zero_add, List.length_nil, List.length_cons, dite_true, List.nil_append, Nat.reduceBEq, reduceDIte, reduceIte, reduceCtorEq, Bool.or_false, Bool.true_or, Bool.and_false, Bool.false_and, Bool.not_true, Bool.not_false, Option.isSome_some, Option.isSome_none, Option.getD_some, List.getElem?_cons_zero, List.getElem?_cons_succ, eq_self, and_self, List.take_succ_cons, List.take_zero, List.drop_succ_cons, List.drop_zero]
  refine brB_intro (fun h1 => ?_) (fun h1 => ?_)
  · have h1 := of_decide_eq_true h1
    have hw1 : w64 ((i : Int) + 1) = ((i + 1 : Nat) : Int) := w64_s (n := ts.length) (by omega) hl
    have hs := atT_s (ts := ts) (w := w) (i := i) (by omega)
    refine ⟨⟨by omega, by omega⟩, brB_intro (fun h2 => ?_) (fun h2 => ?_)⟩
    · rw [if_pos (of_decide_eq_true h2)] at hs
      rw [hm, hs] at hK
      exact retN [0] rfl hK
    · rw [if_neg (of_decide_eq_false h2)] at hs
      refine ⟨i + 1, [(0, 0)], ⟨by omega, by rw [hm, hs]⟩, by omega, rfl, ?_⟩
      rw [hw1]; rfl
  · have h1 := of_decide_eq_false h1
    have e : atT ts w = 0 := by rw [hm, List.drop_eq_nil_of_le (by omega)]; rfl
    rw [e] at hK
    exact retN [0] rfl hK
def c_atI : Ctr Tryz.prog := ⟨94, ent Tryz.func94 rfl rfl, [true, false], sp_atI, good_atI, []⟩
@[go_sem] theorem c_atI_f : c_atI.f = 94 := rfl
@[go_sem] theorem c_atI_ms : c_atI.ms = [true, false] := rfl
@[go_sem] theorem c_atI_sp : c_atI.spec = sp_atI := rfl
@[go_sem] theorem c_atI_fz : c_atI.fz = [] := rfl
attribute [go_sem] sp_atI
def rowD (ts : TermL) (ds : LL) : List Int := ds.map (atT ts)
theorem rowD_len (ts : TermL) (ds : LL) : (rowD ts ds).length = ds.length := List.length_map ..
theorem rowD_s (ts : TermL) {ds : LL} {i : Nat} (h : i < ds.length) : rowD ts (ds.take (i + 1)) = rowD ts (ds.take i) ++ [atT ts (ds.getD i [])] := by
  have e : ds.getD i [] = ds[i] := by rw [List.getD_eq_getElem?_getD, List.getElem?_eq_getElem h]; rfl
  rw [rowD, List.take_succ_eq_append_getElem h, List.map_append, e]; rfl
theorem diaL_len {n : Nat} (h : n ≤ 5) : (diaL n).length ≤ 9765625 := Nat.le_trans (List.length_filter_le _ _) (allL_len h)
def sp_dRow : List Cv → List Obj' → Tree
  | [.agg [.v (.int .i64 p), .ro (.pr (.sl 2 (.int .i64)) (.int .i64)) ts], .one (.v (.int .i64 n))], [] => .need (0 ≤ n ∧ n ≤ 5) (.ret (ow 0) [rwi (rowD ts (diaL n.toNat))])
  | _, _ => .fail
set_option maxHeartbeats 4000000 in
set_option maxRecDepth 100000 in
theorem good_dRow : Good Tryz.prog 54 sp_dRow := by
  refine good_ofF Tryz.func54 rfl _ rfl _ rfl (tab [c_dias, c_atI]) (fun X cs os0 K hok hos hK => ?_)
  clear hos; unfold sp_dRow at hK
  split at hK
  case h_2 => exact hK.elim
  rename_i p ts n
  refine ⟨by simp, by simp, ?_⟩
  simp only [go_sem] at hK hok
  simp (maxSteps := 4000000) only [go_sem, Tryz.f54, ↓brB_t, ↓brB_f, Nat.reduceAdd, Int.reduceLE, Int.reduceLT, Int.reduceNeg, decide_true, decide_false, Bool.and_self, Nat.succ_eq_add_one, Int.toNat_natCast, Nat.beq_refl, Bool.and_true, Bool.true_and, Bool.false_or, Bool.or_true, List.all_cons, List.all_nil, Nat.reduceMul, Nat.add_zero, Nat.zero_add, List.length_nil, List.length_cons, dite_true, List.nil_append, Nat.reduceBEq, reduceDIte, reduceIte, reduceCtorEq, Bool.or_false, Bool.true_or, Bool.and_false, Bool.false_and, Bool.not_true, Bool.not_false, Option.isSome_some, Option.isSome_none, Option.getD_some, List.getElem?_cons_zero, List.getElem?_cons_succ, eq_self, and_self, List.take_succ_cons, List.take_zero, List.drop_succ_cons, List.drop_zero]
  obtain ⟨⟨h0, h5⟩, hK⟩ := hK
  have hl : (ts.length : Int) ≤ 9223372036854775807 := len_i hok.1.2.1.1
  clear hok
  obtain ⟨N, rfl⟩ : ∃ N : Nat, n = N := ⟨n.toNat, by omega⟩
  have hdl := diaL_len (n := N) (by omega)
  rw [Int.toNat_natCast] at hK ⊢
  refine ⟨⟨h0, h5⟩, ?_⟩
  refine loop_okF (T := tab [c_dias, c_atI]) [2, 5, 10, 11, 12] [(16, 48), (17, 144)] (fun i : Nat => ⟨23, [(2, .val (.one (.ptr 16 0))), (5, ow 17), (10, .val (.one (.ro kR (diaL N)))), (11, vi (diaL N).length), (12, vi i)], [(16, .box 31 [.v (.int .i64 p), .ro kTm ts]), (17, rwi (rowD ts ((diaL N).take i)))]⟩)
    (fun i => i ≤ (diaL N).length) (fun i => (diaL N).length - i) 0 rfl rfl (Nat.zero_le _) (fun i hi => ?_)
  simp only [go_sem, ↓brB_t, ↓brB_f, Nat.reduceAdd, Int.reduceLE, Int.reduceLT, Int.reduceNeg, decide_true, decide_false, Bool.and_self, Nat.succ_eq_add_one, Int.toNat_natCast, Nat.beq_refl, Bool.and_true, Bool.true_and, Bool.false_or, Bool.or_true, List.all_cons, List.all_nil, Nat.reduceMul, Nat.add_zero, Nat.zero_add, List.length_nil, List.length_cons, dite_true, List.nil_append, Nat.reduceBEq, reduceDIte, reduceIte, reduceCtorEq, Bool.or_false, Bool.true_or, Bool.and_false, Bool.false_and, Bool.not_true, Bool.not_false, Option.isSome_some, Option.isSome_none, Option.getD_some, List.getElem?_cons_zero, List.getElem?_cons_succ, eq_self, and_self, List.take_succ_cons, List.take_zero, List.drop_succ_cons, List.drop_zero]
  have hrl : (rowD ts ((diaL N).take i)).length + 1 ≤ 1099511627776 := by rw [rowD_len, List.length_take]; omega
  refine brB_intro (fun h1 => ?_) (fun h1 => ?_)
  · have h1 := of_decide_eq_true h1
    have hw1 : w64 ((i : Int) + 1) = ((i + 1 : Nat) : Int) := w64_id (by omega) (by omega)
    have hs := rowD_s ts (ds := diaL N) (i := i) (by omega)
    refine ⟨⟨by omega, by omega⟩, hl, hrl, i + 1, [(16, 16), (17, 336)], by omega, by omega, rfl, ?_⟩
    rw [hw1, hs]; rfl
  · have h1 := of_decide_eq_false h1
    have e : i = (diaL N).length := by omega
    rw [e, List.take_length]
    exact retN [17] rfl hK
def c_dRow : Ctr Tryz.prog := ⟨54, ent Tryz.func54 rfl rfl, [], sp_dRow, good_dRow, []⟩
@[go_sem] theorem c_dRow_f : c_dRow.f = 54 := rfl
@[go_sem] theorem c_dRow_ms : c_dRow.ms = [] := rfl
@[go_sem] theorem c_dRow_sp : c_dRow.spec = sp_dRow := rfl
@[go_sem] theorem c_dRow_fz : c_dRow.fz = [] := rfl
attribute [go_sem] sp_dRow
def sp_l04Row : List Cv → List Obj' → Tree
  | [.agg [.v (.int .i64 p), .ro (.pr (.sl 2 (.int .i64)) (.int .i64)) ts], .one (.ro (.sl 2 (.int .i64)) ds)], [] => .need ((ds : LL).length ≤ 10000000) (.ret (ow 0) [rwi (rowD ts ds)])
  | _, _ => .fail
set_option maxHeartbeats 4000000 in
set_option maxRecDepth 100000 in
theorem good_l04Row : Good Tryz.prog 48 sp_l04Row := by
  refine good_ofF Tryz.func48 rfl _ rfl _ rfl (tab [c_l03At]) (fun X cs os0 K hok hos hK => ?_)
  clear hos; unfold sp_l04Row at hK
  split at hK
  case h_2 => exact hK.elim
  rename_i p ts ds
  refine ⟨by simp, by simp, ?_⟩
  simp only [go_sem] at hK hok
  simp (maxSteps := 4000000) only [go_sem, Tryz.f48, ↓brB_t, ↓brB_f, Nat.reduceAdd, Int.reduceLE, Int.reduceLT, Int.reduceNeg, decide_true, decide_false, Bool.and_self, Nat.succ_eq_add_one, Int.toNat_natCast, Nat.beq_refl, Bool.and_true, Bool.true_and, Bool.false_or, Bool.or_true, List.all_cons, List.all_nil, Nat.reduceMul, Nat.add_zero, Nat.zero_add, List.length_nil, List.length_cons, dite_true, List.nil_append, Nat.reduceBEq, reduceDIte, reduceIte, reduceCtorEq, Bool.or_false, Bool.true_or, Bool.and_false, Bool.false_and, Bool.not_true, Bool.not_false, Option.isSome_some, Option.isSome_none, Option.getD_some, List.getElem?_cons_zero, List.getElem?_cons_succ, eq_self, and_self, List.take_succ_cons, List.take_zero, List.drop_succ_cons, List.drop_zero]
  obtain ⟨h5, hK⟩ := hK
  clear hok
  refine loop_okF (T := tab [c_l03At]) [1, 2, 5, 6] [(16, 48), (17, 128)] (fun i : Nat => ⟨24, [(1, .val (.one (.ro kR ds))), (2, .val (.one (.ptr 16 0))), (5, ow 17), (6, vi i)], [(16, .box 31 [.v (.int .i64 p), .ro kTm ts]), (17, rwi (rowD ts ((ds : LL).take i)))]⟩)
    (fun i => i ≤ ds.length) (fun i => ds.length - i) 0 rfl rfl (Nat.zero_le _) (fun i hi => ?_)
  simp only [go_sem, ↓brB_t, ↓brB_f, Nat.reduceAdd, Int.reduceLE, Int.reduceLT, Int.reduceNeg, decide_true, decide_false, Bool.and_self, Nat.succ_eq_add_one, Int.toNat_natCast, Nat.beq_refl, Bool.and_true, Bool.true_and, Bool.false_or, Bool.or_true, List.all_cons, List.all_nil, Nat.reduceMul, Nat.add_zero, Nat.zero_add, List.length_nil, List.length_cons, dite_true, List.nil_append, Nat.reduceBEq, reduceDIte, reduceIte, reduceCtorEq, Bool.or_false, Bool.true_or, Bool.and_false, Bool.false_and, Bool.not_true, Bool.not_false, Option.isSome_some, Option.isSome_none, Option.getD_some, List.getElem?_cons_zero, List.getElem?_cons_succ, eq_self, and_self, List.take_succ_cons, List.take_zero, List.drop_succ_cons, List.drop_zero]
  have hrl : (rowD ts ((ds : LL).take i)).length + 1 ≤ 1099511627776 := by rw [rowD_len, List.length_take]; omega
  refine brB_intro (fun h1 => ?_) (fun h1 => ?_)
  · have h1 := of_decide_eq_true h1
    have hw1 : w64 ((i : Int) + 1) = ((i + 1 : Nat) : Int) := w64_id (by omega) (by omega)
    have hs := rowD_s ts (ds := ds) (i := i) (by omega)
    refine ⟨⟨by omega, by omega⟩, hrl, by kernel_rfl, i + 1, [(16, 16), (17, 368)], by omega, by omega, rfl, ?_⟩
    rw [hw1, hs]; rfl
  · have h1 := of_decide_eq_false h1
    have e : i = ds.length := by omega
    rw [e, List.take_length]
    exact retN [17] rfl hK
def c_l04Row : Ctr Tryz.prog := ⟨48, ent Tryz.func48 rfl rfl, [], sp_l04Row, good_l04Row, []⟩
@[go_sem] theorem c_l04Row_f : c_l04Row.f = 48 := rfl
@[go_sem] theorem c_l04Row_ms : c_l04Row.ms = [] := rfl
@[go_sem] theorem c_l04Row_sp : c_l04Row.spec = sp_l04Row := rfl
@[go_sem] theorem c_l04Row_fz : c_l04Row.fz = [] := rfl
attribute [go_sem] sp_l04Row
end Go.Proofs.YthfmlelodmcgkaaGreat.V
end
section
namespace Go.Proofs.YthfmlelodmcgkaaGreat.V
open Go
def letter (x : Int) : Int := (97 + x % 256) % 256
def textB (w : List Int) : ByteArray := bytesS (w.map letter)
def sp_wordText : List Cv → List Obj' → Tree
  | [.one (.ro (.int .i64) w)], [] => .need (w.length < 1099511627776) (.ret (.val (.one (.v (.string (textB w))))) [])
  | _, _ => .fail
set_option maxHeartbeats 4000000 in
set_option maxRecDepth 100000 in
theorem good_wordText : Good Tryz.prog 155 sp_wordText := by
  refine good_ofF Tryz.func155 rfl _ rfl _ rfl (tab []) (fun X cs os0 K hok hos hK => ?_)
  clear hos; unfold sp_wordText at hK
  split at hK
  case h_2 => exact hK.elim
  rename_i w
  refine ⟨by simp, by simp, ?_⟩
  simp only [go_sem] at hK hok
  simp (maxSteps := 4000000) only [go_sem, Tryz.f155, ↓brB_t, ↓brB_f, Nat.reduceAdd, Int.reduceLE, Int.reduceLT, Int.reduceNeg, decide_true, decide_false, Bool.and_self, Nat.succ_eq_add_one, Int.toNat_natCast, Nat.beq_refl, Bool.and_true, Bool.true_and, Bool.false_or, Bool.or_true, List.all_cons, List.all_nil, Nat.reduceMul, Nat.add_zero, Nat.zero_add, List.length_nil, List.length_cons, dite_true, List.nil_append, Nat.reduceBEq, reduceDIte, reduceIte, reduceCtorEq, Bool.or_false, Bool.true_or, Bool.and_false, Bool.false_and, Bool.not_true, Bool.not_false, Option.isSome_some, Option.isSome_none, Option.getD_some, List.getElem?_cons_zero, List.getElem?_cons_succ, eq_self, and_self, List.take_succ_cons, List.take_zero, List.drop_succ_cons, List.drop_zero]
  obtain ⟨hl, hK⟩ := hK
  clear hok
  refine loop_okF (T := tab []) [3, 7, 8, 9] [(16, 112)] (fun i : Nat => ⟨22, [(3, ow 16), (7, ri w), (8, vi (w.length : Nat)), (9, vi i)], [(16, .row 5 (.int .u8) ((w.take i).map letter))]⟩)
    (fun i => i ≤ w.length) (fun i => w.length - i) 0 rfl rfl (Nat.zero_le _) (fun i hi => ?_)
  have hml : ((w.take i).map letter).length = i := by rw [List.length_map, List.length_take]; omega
  simp only [go_sem, ↓brB_t, ↓brB_f, Nat.reduceAdd, Int.reduceLE, Int.reduceLT, Int.reduceNeg, decide_true, decide_false, Bool.and_self, Nat.succ_eq_add_one, Int.toNat_natCast, Nat.beq_refl, Bool.and_true, Bool.true_and, Bool.false_or, Bool.or_true, List.all_cons, List.all_nil, Nat.reduceMul, Nat.add_zero, Nat.zero_add, List.length_nil, List.length_cons, dite_true, List.nil_append, Nat.reduceBEq, reduceDIte, reduceIte, reduceCtorEq, Bool.or_false, Bool.true_or, Bool.and_false, Bool.false_and, Bool.not_true, Bool.not_false, Option.isSome_some, Option.isSome_none, Option.getD_some, List.getElem?_cons_zero, List.getElem?_cons_succ, eq_self, and_self, List.take_succ_cons, List.take_zero, List.drop_succ_cons, List.drop_zero]
  refine brB_intro (fun h1 => ?_) (fun h1 => ret0 ?_)
  · have h1 := of_decide_eq_true h1
    have hw : w64 ((i : Int) + 1) = ((i + 1 : Nat) : Int) := w64_s (n := w.length) (by omega) (by omega)
    have e : (w.take (i + 1)).map letter = (w.take i).map letter ++ [(97 + w.getD i 0 % 256) % 256] := by
      rw [List.take_succ_eq_append_getElem (by omega), List.map_append, List.getD_eq_getElem?_getD, List.getElem?_eq_getElem (by omega)]; rfl
    refine ⟨⟨by omega, by omega⟩, by omega, i + 1, [(16, 304)], by omega, by omega, rfl, ?_⟩
    rw [hw, e]; rfl
  · have h1 := of_decide_eq_false h1
    rw [List.take_of_length_le (by omega)]; exact hK
def c_wordText : Ctr Tryz.prog := ⟨155, ent Tryz.func155 rfl rfl, [], sp_wordText, good_wordText, []⟩
@[go_sem] theorem c_wordText_f : c_wordText.f = 155 := rfl
@[go_sem] theorem c_wordText_ms : c_wordText.ms = [] := rfl
@[go_sem] theorem c_wordText_sp : c_wordText.spec = sp_wordText := rfl
@[go_sem] theorem c_wordText_fz : c_wordText.fz = [] := rfl
attribute [go_sem] sp_wordText
end Go.Proofs.YthfmlelodmcgkaaGreat.V
end
section
namespace Go.Proofs.YthfmlelodmcgkaaGreat.PO
open Go.RowKit Go.Proofs.YthfmlelodmcgkaaGreatW.PrintWords Go.Proofs.YthfmlelodmcgkaaGreatW.PrintLast Go.Proofs.YthfmlelodmcgkaaGreatW.PrintMore
end Go.Proofs.YthfmlelodmcgkaaGreat.PO
namespace Go.Proofs.YthfmlelodmcgkaaGreat.PO
open Go.RowKit Go.Proofs.YthfmlelodmcgkaaGreatW.PrintWords Go.Proofs.YthfmlelodmcgkaaGreatW.PrintLast Go.Proofs.YthfmlelodmcgkaaGreatW.PrintMore
def cmp_isNaN_int64.f (a0 : Int) : Option (Bool) := some (a0 != a0)
set_option maxHeartbeats 8000000 in
set_option maxRecDepth 100000 in
theorem cmp_isNaN_int64.calls (a0 : Int) (r : Bool) (w : World) (h : cmp_isNaN_int64.f a0 = some r) :
    Calls Tryz.prog 184 #[.int .i64 a0] w fun e w' => e = .returned (.bool r) ∧ Drawn0 w w' := by
  have H : (some (a0 != a0)) = some r := h
  clear h
  obtain rfl := Option.some.inj H
  go_enter Tryz.func184, Tryz.ntmps184
  go_wp2
  go_ret
  exact ⟨by first | rfl | (simp; done) | (simp [*]; done), by repeat (first | exact Drawn0.refl _ | apply Drawn0.step)⟩
def cmp_Compare_int64.f (a0 : Int) (a1 : Int) : Option (Int) := (cmp_isNaN_int64.f a0).bind fun t101 => ((cmp_isNaN_int64.f a1).bind fun t102 => (if t101 = true then (if t102 = true then (some 0) else (some (-1))) else (if t102 = true then (some 1) else (if a0 < a1 then (some (-1)) else (if a0 > a1 then (some 1) else (some 0))))))
set_option maxHeartbeats 8000000 in
set_option maxRecDepth 100000 in
theorem cmp_Compare_int64.calls (a0 : Int) (a1 : Int) (r : Int) (w : World) (h : cmp_Compare_int64.f a0 a1 = some r) :
    Calls Tryz.prog 165 #[.int .i64 a0, .int .i64 a1] w fun e w' => e = .returned (.int .i64 r) ∧ Drawn0 w w' := by
  have H : ((cmp_isNaN_int64.f a0).bind fun t101 => ((cmp_isNaN_int64.f a1).bind fun t102 => (if t101 = true then (if t102 = true then (some 0) else (some (-1))) else (if t102 = true then (some 1) else (if a0 < a1 then (some (-1)) else (if a0 > a1 then (some 1) else (some 0))))))) = some r := h
  clear h
  replace H := Option.bind_eq_some_iff.mp H
  obtain ⟨t101, A30, H⟩ := H
  replace H : ((cmp_isNaN_int64.f a1).bind fun t102 => (if t101 = true then (if t102 = true then (some 0) else (some (-1))) else (if t102 = true then (some 1) else (if a0 < a1 then (some (-1)) else (if a0 > a1 then (some 1) else (some 0)))))) = some r := H
  have A3 := Aside0.mk A30
  clear A30
  replace H := Option.bind_eq_some_iff.mp H
  obtain ⟨t102, A40, H⟩ := H
  replace H : (if t101 = true then (if t102 = true then (some 0) else (some (-1))) else (if t102 = true then (some 1) else (if a0 < a1 then (some (-1)) else (if a0 > a1 then (some 1) else (some 0))))) = some r := H
  have A4 := Aside0.mk A40
  clear A40
  by_cases c5 : t101 = true
  · subst c5
    have H1 : (if t102 = true then (some 0) else (some (-1))) = some r := by rw [if_pos rfl] at H; exact H
    clear H
    have H := H1
    clear H1
    by_cases c6 : t102 = true
    · subst c6
      have H1 : (some 0) = some r := by rw [if_pos rfl] at H; exact H
      clear H
      have H := H1
      clear H1
      obtain rfl := Option.some.inj H
      go_enter Tryz.func165, Tryz.ntmps165
      go_wp2_with (first | ((with_reducible refine gate_callee (f := 184) rfl ?_); refine goesL_ (some 8) rfl rfl Tryz.func184 (by kernel_rfl) rfl #[.int .i64 a0] rfl (by (try simp only [List.map_toArray, List.map_cons, List.map_nil]); first | done | rfl | (simp only [List.length_drop, List.length_take]; rfl)) ?_; (with_reducible refine (cmp_isNaN_int64.calls a0 true _ A3.out).mono ?_); rintro e w' ⟨rfl, ⟨nd, rfl⟩⟩; refine ⟨_, rfl, ?_⟩) | ((with_reducible refine gate_callee (f := 184) rfl ?_); refine goesL_ (some 10) rfl rfl Tryz.func184 (by kernel_rfl) rfl #[.int .i64 a1] rfl (by (try simp only [List.map_toArray, List.map_cons, List.map_nil]); first | done | rfl | (simp only [List.length_drop, List.length_take]; rfl)) ?_; (with_reducible refine (cmp_isNaN_int64.calls a1 true _ A4.out).mono ?_); rintro e w' ⟨rfl, ⟨nd, rfl⟩⟩; refine ⟨_, rfl, ?_⟩))
      go_ret
      exact ⟨by first | rfl | (simp; done) | (simp [*]; done), by repeat (first | exact Drawn0.refl _ | apply Drawn0.step)⟩
    · replace c6 := Bool.eq_false_iff.mpr c6
      subst c6
      have H1 : (some (-1)) = some r := by rw [if_neg (show ¬ (false = true) by decide)] at H; exact H
      clear H
      have H := H1
      clear H1
      obtain rfl := Option.some.inj H
      go_enter Tryz.func165, Tryz.ntmps165
      go_wp2_with (first | ((with_reducible refine gate_callee (f := 184) rfl ?_); refine goesL_ (some 8) rfl rfl Tryz.func184 (by kernel_rfl) rfl #[.int .i64 a0] rfl (by (try simp only [List.map_toArray, List.map_cons, List.map_nil]); first | done | rfl | (simp only [List.length_drop, List.length_take]; rfl)) ?_; (with_reducible refine (cmp_isNaN_int64.calls a0 true _ A3.out).mono ?_); rintro e w' ⟨rfl, ⟨nd, rfl⟩⟩; refine ⟨_, rfl, ?_⟩) | ((with_reducible refine gate_callee (f := 184) rfl ?_); refine goesL_ (some 10) rfl rfl Tryz.func184 (by kernel_rfl) rfl #[.int .i64 a1] rfl (by (try simp only [List.map_toArray, List.map_cons, List.map_nil]); first | done | rfl | (simp only [List.length_drop, List.length_take]; rfl)) ?_; (with_reducible refine (cmp_isNaN_int64.calls a1 false _ A4.out).mono ?_); rintro e w' ⟨rfl, ⟨nd, rfl⟩⟩; refine ⟨_, rfl, ?_⟩))
      go_ret
      exact ⟨by first | rfl | (simp; done) | (simp [*]; done), by repeat (first | exact Drawn0.refl _ | apply Drawn0.step)⟩
  · replace c5 := Bool.eq_false_iff.mpr c5
    subst c5
    have H1 : (if t102 = true then (some 1) else (if a0 < a1 then (some (-1)) else (if a0 > a1 then (some 1) else (some 0)))) = some r := by rw [if_neg (show ¬ (false = true) by decide)] at H; exact H
    clear H
    have H := H1
    clear H1
    by_cases c7 : t102 = true
    · subst c7
      have H1 : (some 1) = some r := by rw [if_pos rfl] at H; exact H
      clear H
      have H := H1
      clear H1
      obtain rfl := Option.some.inj H
      go_enter Tryz.func165, Tryz.ntmps165
      go_wp2_with (first | ((with_reducible refine gate_callee (f := 184) rfl ?_); refine goesL_ (some 8) rfl rfl Tryz.func184 (by kernel_rfl) rfl #[.int .i64 a0] rfl (by (try simp only [List.map_toArray, List.map_cons, List.map_nil]); first | done | rfl | (simp only [List.length_drop, List.length_take]; rfl)) ?_; (with_reducible refine (cmp_isNaN_int64.calls a0 false _ A3.out).mono ?_); rintro e w' ⟨rfl, ⟨nd, rfl⟩⟩; refine ⟨_, rfl, ?_⟩) | ((with_reducible refine gate_callee (f := 184) rfl ?_); refine goesL_ (some 10) rfl rfl Tryz.func184 (by kernel_rfl) rfl #[.int .i64 a1] rfl (by (try simp only [List.map_toArray, List.map_cons, List.map_nil]); first | done | rfl | (simp only [List.length_drop, List.length_take]; rfl)) ?_; (with_reducible refine (cmp_isNaN_int64.calls a1 true _ A4.out).mono ?_); rintro e w' ⟨rfl, ⟨nd, rfl⟩⟩; refine ⟨_, rfl, ?_⟩))
      go_ret
      exact ⟨by first | rfl | (simp; done) | (simp [*]; done), by repeat (first | exact Drawn0.refl _ | apply Drawn0.step)⟩
    · replace c7 := Bool.eq_false_iff.mpr c7
      subst c7
      have H1 : (if a0 < a1 then (some (-1)) else (if a0 > a1 then (some 1) else (some 0))) = some r := by rw [if_neg (show ¬ (false = true) by decide)] at H; exact H
      clear H
      have H := H1
      clear H1
      by_cases c8 : a0 < a1
      · rw [if_pos c8] at H
        have c8b0 : decide (a0 < a1) = true := decide_eq_true c8
        clear c8
        obtain rfl := Option.some.inj H
        go_enter Tryz.func165, Tryz.ntmps165
        go_wp2_with (first | ((with_reducible refine gate_callee (f := 184) rfl ?_); refine goesL_ (some 8) rfl rfl Tryz.func184 (by kernel_rfl) rfl #[.int .i64 a0] rfl (by (try simp only [List.map_toArray, List.map_cons, List.map_nil]); first | done | rfl | (simp only [List.length_drop, List.length_take]; rfl)) ?_; (with_reducible refine (cmp_isNaN_int64.calls a0 false _ A3.out).mono ?_); rintro e w' ⟨rfl, ⟨nd, rfl⟩⟩; refine ⟨_, rfl, ?_⟩) | ((with_reducible refine gate_callee (f := 184) rfl ?_); refine goesL_ (some 10) rfl rfl Tryz.func184 (by kernel_rfl) rfl #[.int .i64 a1] rfl (by (try simp only [List.map_toArray, List.map_cons, List.map_nil]); first | done | rfl | (simp only [List.length_drop, List.length_take]; rfl)) ?_; (with_reducible refine (cmp_isNaN_int64.calls a1 false _ A4.out).mono ?_); rintro e w' ⟨rfl, ⟨nd, rfl⟩⟩; refine ⟨_, rfl, ?_⟩))
        go_ret
        exact ⟨by first | rfl | (simp; done) | (simp [*]; done), by repeat (first | exact Drawn0.refl _ | apply Drawn0.step)⟩
      · rw [if_neg c8] at H
        have c8b0 : decide (a0 < a1) = false := decide_eq_false c8
        clear c8
        by_cases c9 : a0 > a1
        · rw [if_pos c9] at H
          have c9b0 : decide (a1 < a0) = true := decide_eq_true c9
          clear c9
          obtain rfl := Option.some.inj H
          go_enter Tryz.func165, Tryz.ntmps165
          go_wp2_with (first | ((with_reducible refine gate_callee (f := 184) rfl ?_); refine goesL_ (some 8) rfl rfl Tryz.func184 (by kernel_rfl) rfl #[.int .i64 a0] rfl (by (try simp only [List.map_toArray, List.map_cons, List.map_nil]); first | done | rfl | (simp only [List.length_drop, List.length_take]; rfl)) ?_; (with_reducible refine (cmp_isNaN_int64.calls a0 false _ A3.out).mono ?_); rintro e w' ⟨rfl, ⟨nd, rfl⟩⟩; refine ⟨_, rfl, ?_⟩) | ((with_reducible refine gate_callee (f := 184) rfl ?_); refine goesL_ (some 10) rfl rfl Tryz.func184 (by kernel_rfl) rfl #[.int .i64 a1] rfl (by (try simp only [List.map_toArray, List.map_cons, List.map_nil]); first | done | rfl | (simp only [List.length_drop, List.length_take]; rfl)) ?_; (with_reducible refine (cmp_isNaN_int64.calls a1 false _ A4.out).mono ?_); rintro e w' ⟨rfl, ⟨nd, rfl⟩⟩; refine ⟨_, rfl, ?_⟩))
          go_ret
          exact ⟨by first | rfl | (simp; done) | (simp [*]; done), by repeat (first | exact Drawn0.refl _ | apply Drawn0.step)⟩
        · rw [if_neg c9] at H
          have c9b0 : decide (a1 < a0) = false := decide_eq_false c9
          clear c9
          obtain rfl := Option.some.inj H
          go_enter Tryz.func165, Tryz.ntmps165
          go_wp2_with (first | ((with_reducible refine gate_callee (f := 184) rfl ?_); refine goesL_ (some 8) rfl rfl Tryz.func184 (by kernel_rfl) rfl #[.int .i64 a0] rfl (by (try simp only [List.map_toArray, List.map_cons, List.map_nil]); first | done | rfl | (simp only [List.length_drop, List.length_take]; rfl)) ?_; (with_reducible refine (cmp_isNaN_int64.calls a0 false _ A3.out).mono ?_); rintro e w' ⟨rfl, ⟨nd, rfl⟩⟩; refine ⟨_, rfl, ?_⟩) | ((with_reducible refine gate_callee (f := 184) rfl ?_); refine goesL_ (some 10) rfl rfl Tryz.func184 (by kernel_rfl) rfl #[.int .i64 a1] rfl (by (try simp only [List.map_toArray, List.map_cons, List.map_nil]); first | done | rfl | (simp only [List.length_drop, List.length_take]; rfl)) ?_; (with_reducible refine (cmp_isNaN_int64.calls a1 false _ A4.out).mono ?_); rintro e w' ⟨rfl, ⟨nd, rfl⟩⟩; refine ⟨_, rfl, ?_⟩))
          go_ret
          exact ⟨by first | rfl | (simp; done) | (simp [*]; done), by repeat (first | exact Drawn0.refl _ | apply Drawn0.step)⟩
def slices_Compare_int64_int64.l0 : Nat → List Int → List Int → List Int → Int → Int → Option (Int)
  | 0, _, _, _, _, _ => none
  | k + 1, x0, x1, x9, x10, x11 => if x11 < x10 then (if 0 ≤ x11 then (if x11 < (x9.length : Int) then (if x11 ≥ (x1.length : Int) then (some 1) else (if x11 < (x1.length : Int) then ((cmp_Compare_int64.f (rd x9 x11) (rd x1 x11)).bind fun t105 => (if t105 = 0 then (slices_Compare_int64_int64.l0 k x0 x1 x9 x10 (wrap64 (x11 + 1))) else (some t105))) else (none))) else (none)) else (none)) else (if (x0.length : Int) < (x1.length : Int) then (some (-1)) else (some 0))
def slices_Compare_int64_int64.f (k : Nat) (l0 : List Int) (l1 : List Int) : Option (Int) := slices_Compare_int64_int64.l0 k l0 l1 l0 (l0.length : Int) 0
theorem slices_Compare_int64_int64.mono_l : ∀ k, (∀ y0 y1 y2 y3 y4, LeO (slices_Compare_int64_int64.l0 k y0 y1 y2 y3 y4) (slices_Compare_int64_int64.l0 (k + 1) y0 y1 y2 y3 y4))
  | 0 => fun _ _ _ _ _ r h => by simp [slices_Compare_int64_int64.l0] at h
  | k + 1 => by
    have ih0 := slices_Compare_int64_int64.mono_l k
    · intro y0 y1 y2 y3 y4
      unfold slices_Compare_int64_int64.l0
      repeat' first
      | (with_reducible exact ih0 _ _ _ _ _)
      | (with_reducible exact LeO.refl _)
      | (with_reducible exact LeO.none _)
      | (with_reducible refine LeO.ite ?_ ?_)
      | (with_reducible refine LeO.bind ?_ (fun _ => ?_))
      | exact ih0 _ _ _ _ _
      | exact LeO.none _
      | refine LeO.ite ?_ ?_
      | refine LeO.bind ?_ (fun _ => ?_)
theorem slices_Compare_int64_int64.mono : ∀ a0 a1 k, LeO (slices_Compare_int64_int64.f k a0 a1) (slices_Compare_int64_int64.f (k + 1) a0 a1) := by
  intro a0 a1 k
  have ih0 := slices_Compare_int64_int64.mono_l k
  unfold slices_Compare_int64_int64.f
  repeat' first
      | (with_reducible exact ih0 _ _ _ _ _)
      | (with_reducible exact LeO.refl _)
      | (with_reducible exact LeO.none _)
      | (with_reducible refine LeO.ite ?_ ?_)
      | (with_reducible refine LeO.bind ?_ (fun _ => ?_))
      | exact ih0 _ _ _ _ _
      | exact LeO.none _
      | refine LeO.ite ?_ ?_
      | refine LeO.bind ?_ (fun _ => ?_)
set_option maxHeartbeats 8000000 in
set_option maxRecDepth 100000 in
theorem slices_Compare_int64_int64.calls (k : Nat) (A0 : Option Addr) (c0 : Nat) (l0 : List Int) (A1 : Option Addr) (c1 : Nat) (l1 : List Int) (r : Int) (w : World) (hr0 : Kd.C (Kd.int .i64) w A0 l0.length l0) (hc0 : l0.length ≤ c0) (hr1 : Kd.C (Kd.int .i64) w A1 l1.length l1) (hc1 : l1.length ≤ c1) (h : slices_Compare_int64_int64.f k l0 l1 = some r) :
    Calls Tryz.prog 141 #[.slice A0 l0.length c0, .slice A1 l1.length c1] w fun e w' => e = .returned (.int .i64 r) ∧ Drawn0 w w' := by
  have HR0 := Aside0.mk hr0
  have HC0 := Aside0.mk hc0
  clear hr0 hc0
  have HR1 := Aside0.mk hr1
  have HC1 := Aside0.mk hc1
  clear hr1 hc1
  have H : (slices_Compare_int64_int64.l0 k l0 l1 l0 (l0.length : Int) 0) = some r := h
  clear h
  have H' := Aside0.mk H
  clear H
  go_enter Tryz.func141, Tryz.ntmps141
  go_wp2
  go_loopg [11] k (fun kq v11 w' => ∃ (x11_1 : Int), v11 = .int .i64 x11_1 ∧ Aside0 (slices_Compare_int64_int64.l0 kq l0 l1 l0 (l0.length : Int) x11_1 = some r) ∧ Aside0 (kq ≤ k) ∧ Drawn0 w w')
  case atStart => exact ⟨(0), (by first | rfl | (simp; done) | (simp [*]; done)), H', ⟨Nat.le_refl _⟩, by repeat (first | exact Drawn0.refl _ | apply Drawn0.step)⟩
  case round =>
    clear H'
    try clear c1
    try clear p2
    obtain ⟨x11_1, rfl, HA, HK1, ⟨m1, rfl⟩⟩ := hrel
    cases gk with
    | zero => exact absurd HA.out (by simp [slices_Compare_int64_int64.l0])
    | succ k1 =>
      have H := HA.out
      clear HA
      simp only [slices_Compare_int64_int64.l0] at H
      by_cases c3 : x11_1 < (l0.length : Int)
      · rw [if_pos c3] at H
        have c3b0 : decide (x11_1 < (l0.length : Int)) = true := decide_eq_true c3
        clear c3
        by_cases c4 : 0 ≤ x11_1
        · rw [if_pos c4] at H
          have c4b0 : decide (0 ≤ x11_1) = true := decide_eq_true c4
          clear c4
          by_cases c5 : x11_1 < (l0.length : Int)
          · rw [if_pos c5] at H
            have c5b0 : decide (x11_1 < (l0.length : Int)) = true := decide_eq_true c5
            clear c5
            by_cases c6 : x11_1 ≥ (l1.length : Int)
            · rw [if_pos c6] at H
              have c6b0 : decide ((l1.length : Int) ≤ x11_1) = true := decide_eq_true c6
              clear c6
              obtain rfl := Option.some.inj H
              have p103 : 0 ≤ (x11_1 : Int) := of_decide_eq_true (by first | (with_reducible assumption) | assumption)
              have q103 : x11_1 < (l0.length : Int) := of_decide_eq_true (by first | (with_reducible assumption) | assumption)
              obtain ⟨ad103, e103, hx103_0⟩ := Kd.at_int HR0.out x11_1 p103 q103
              cases e103
              replace p103 := eq_true p103
              replace q103 := eq_true q103
              go_wp2
              go_ret
              exact ⟨by first | rfl | (simp; done) | (simp [*]; done), by repeat (first | exact Drawn0.refl _ | apply Drawn0.step)⟩
            · rw [if_neg c6] at H
              have c6b0 : decide ((l1.length : Int) ≤ x11_1) = false := decide_eq_false c6
              clear c6
              by_cases c7 : x11_1 < (l1.length : Int)
              · rw [if_pos c7] at H
                have c7b0 : decide (x11_1 < (l1.length : Int)) = true := decide_eq_true c7
                clear c7
                replace H := Option.bind_eq_some_iff.mp H
                obtain ⟨t105, A80, H⟩ := H
                replace H : (if t105 = 0 then (slices_Compare_int64_int64.l0 k1 l0 l1 l0 (l0.length : Int) (wrap64 (x11_1 + 1))) else (some t105)) = some r := H
                have A8 := Aside0.mk A80
                clear A80
                by_cases c9 : t105 = 0
                · rw [if_pos c9] at H
                  have c9b0 : (t105 == 0) = true := beq_iff_eq.mpr c9
                  have c9b1 : (t105 != 0) = false := bne_eq_false_iff_eq.mpr c9
                  clear c9
                  have H' := Aside0.mk H
                  clear H
                  have p103 : 0 ≤ (x11_1 : Int) := of_decide_eq_true (by first | (with_reducible assumption) | assumption)
                  have q103 : x11_1 < (l0.length : Int) := of_decide_eq_true (by first | (with_reducible assumption) | assumption)
                  obtain ⟨ad103, e103, hx103_0⟩ := Kd.at_int HR0.out x11_1 p103 q103
                  cases e103
                  replace p103 := eq_true p103
                  replace q103 := eq_true q103
                  have p104 : 0 ≤ (x11_1 : Int) := of_decide_eq_true (by first | (with_reducible assumption) | assumption)
                  have q104 : x11_1 < (l1.length : Int) := of_decide_eq_true (by first | (with_reducible assumption) | assumption)
                  obtain ⟨ad104, e104, hx104_0⟩ := Kd.at_int HR1.out x11_1 p104 q104
                  cases e104
                  replace p104 := eq_true p104
                  replace q104 := eq_true q104
                  go_wp2_with (first | ((with_reducible refine gate_callee (f := 165) rfl ?_); refine goesL_ (some 26) rfl rfl Tryz.func165 (by kernel_rfl) rfl #[.int .i64 (rd l0 x11_1), .int .i64 (rd l1 x11_1)] rfl (by (try simp only [List.map_toArray, List.map_cons, List.map_nil]); first | done | rfl | (simp only [List.length_drop, List.length_take]; rfl)) ?_; (with_reducible refine (cmp_Compare_int64.calls (rd l0 x11_1) (rd l1 x11_1) t105 _ A8.out).mono ?_); rintro e w' ⟨rfl, ⟨nd, rfl⟩⟩; refine ⟨_, rfl, ?_⟩))
                  go_roundg k1
                  case measure => have := HK1.out; omega
                  case rel => exact ⟨(wrap64 (x11_1 + 1)), (by first | rfl | (simp; done) | (simp [*]; done)), H', ⟨by have := HK1.out; omega⟩, by repeat (first | exact Drawn0.refl _ | apply Drawn0.step)⟩
                · rw [if_neg c9] at H
                  have c9b0 : (t105 == 0) = false := beq_eq_false_iff_ne.mpr c9
                  have c9b1 : (t105 != 0) = true := bne_iff_ne.mpr c9
                  obtain rfl := Option.some.inj H
                  have p103 : 0 ≤ (x11_1 : Int) := of_decide_eq_true (by first | (with_reducible assumption) | assumption)
                  have q103 : x11_1 < (l0.length : Int) := of_decide_eq_true (by first | (with_reducible assumption) | assumption)
                  obtain ⟨ad103, e103, hx103_0⟩ := Kd.at_int HR0.out x11_1 p103 q103
                  cases e103
                  replace p103 := eq_true p103
                  replace q103 := eq_true q103
                  have p104 : 0 ≤ (x11_1 : Int) := of_decide_eq_true (by first | (with_reducible assumption) | assumption)
                  have q104 : x11_1 < (l1.length : Int) := of_decide_eq_true (by first | (with_reducible assumption) | assumption)
                  obtain ⟨ad104, e104, hx104_0⟩ := Kd.at_int HR1.out x11_1 p104 q104
                  cases e104
                  replace p104 := eq_true p104
                  replace q104 := eq_true q104
                  go_wp2_with (first | ((with_reducible refine gate_callee (f := 165) rfl ?_); refine goesL_ (some 26) rfl rfl Tryz.func165 (by kernel_rfl) rfl #[.int .i64 (rd l0 x11_1), .int .i64 (rd l1 x11_1)] rfl (by (try simp only [List.map_toArray, List.map_cons, List.map_nil]); first | done | rfl | (simp only [List.length_drop, List.length_take]; rfl)) ?_; (with_reducible refine (cmp_Compare_int64.calls (rd l0 x11_1) (rd l1 x11_1) t105 _ A8.out).mono ?_); rintro e w' ⟨rfl, ⟨nd, rfl⟩⟩; refine ⟨_, rfl, ?_⟩))
                  go_ret
                  exact ⟨by first | rfl | (simp; done) | (simp [*]; done), by repeat (first | exact Drawn0.refl _ | apply Drawn0.step)⟩
              · rw [if_neg c7] at H
                exact absurd H (by simp)
          · rw [if_neg c5] at H
            exact absurd H (by simp)
        · rw [if_neg c4] at H
          exact absurd H (by simp)
      · rw [if_neg c3] at H
        have c3b0 : decide (x11_1 < (l0.length : Int)) = false := decide_eq_false c3
        clear c3
        by_cases c10 : (l0.length : Int) < (l1.length : Int)
        · rw [if_pos c10] at H
          have c10b0 : decide ((l0.length : Int) < (l1.length : Int)) = true := decide_eq_true c10
          have c10b1 : decide (l0.length < l1.length) = true := decide_eq_true (Int.ofNat_lt.mp c10)
          clear c10
          obtain rfl := Option.some.inj H
          go_wp2
          go_ret
          exact ⟨by first | rfl | (simp; done) | (simp [*]; done), by repeat (first | exact Drawn0.refl _ | apply Drawn0.step)⟩
        · rw [if_neg c10] at H
          have c10b0 : decide ((l0.length : Int) < (l1.length : Int)) = false := decide_eq_false c10
          have c10b1 : decide (l0.length < l1.length) = false := decide_eq_false (fun h => c10 (Int.ofNat_lt.mpr h))
          clear c10
          obtain rfl := Option.some.inj H
          go_wp2
          go_ret
          exact ⟨by first | rfl | (simp; done) | (simp [*]; done), by repeat (first | exact Drawn0.refl _ | apply Drawn0.step)⟩
def cmp_isNaN_int.f (a0 : Int) : Option (Bool) := some (a0 != a0)
set_option maxHeartbeats 8000000 in
set_option maxRecDepth 100000 in
theorem cmp_isNaN_int.calls (a0 : Int) (r : Bool) (w : World) (h : cmp_isNaN_int.f a0 = some r) :
    Calls Tryz.prog 200 #[.int .i64 a0] w fun e w' => e = .returned (.bool r) ∧ Drawn0 w w' := by
  have H : (some (a0 != a0)) = some r := h
  clear h
  obtain rfl := Option.some.inj H
  go_enter Tryz.func200, Tryz.ntmps200
  go_wp2
  go_ret
  exact ⟨by first | rfl | (simp; done) | (simp [*]; done), by repeat (first | exact Drawn0.refl _ | apply Drawn0.step)⟩
def cmp_Compare_int.f (a0 : Int) (a1 : Int) : Option (Int) := (cmp_isNaN_int.f a0).bind fun t106 => ((cmp_isNaN_int.f a1).bind fun t107 => (if t106 = true then (if t107 = true then (some 0) else (some (-1))) else (if t107 = true then (some 1) else (if a0 < a1 then (some (-1)) else (if a0 > a1 then (some 1) else (some 0))))))
set_option maxHeartbeats 8000000 in
set_option maxRecDepth 100000 in
theorem cmp_Compare_int.calls (a0 : Int) (a1 : Int) (r : Int) (w : World) (h : cmp_Compare_int.f a0 a1 = some r) :
    Calls Tryz.prog 181 #[.int .i64 a0, .int .i64 a1] w fun e w' => e = .returned (.int .i64 r) ∧ Drawn0 w w' := by
  have H : ((cmp_isNaN_int.f a0).bind fun t106 => ((cmp_isNaN_int.f a1).bind fun t107 => (if t106 = true then (if t107 = true then (some 0) else (some (-1))) else (if t107 = true then (some 1) else (if a0 < a1 then (some (-1)) else (if a0 > a1 then (some 1) else (some 0))))))) = some r := h
  clear h
  replace H := Option.bind_eq_some_iff.mp H
  obtain ⟨t106, A30, H⟩ := H
  replace H : ((cmp_isNaN_int.f a1).bind fun t107 => (if t106 = true then (if t107 = true then (some 0) else (some (-1))) else (if t107 = true then (some 1) else (if a0 < a1 then (some (-1)) else (if a0 > a1 then (some 1) else (some 0)))))) = some r := H
  have A3 := Aside0.mk A30
  clear A30
  replace H := Option.bind_eq_some_iff.mp H
  obtain ⟨t107, A40, H⟩ := H
  replace H : (if t106 = true then (if t107 = true then (some 0) else (some (-1))) else (if t107 = true then (some 1) else (if a0 < a1 then (some (-1)) else (if a0 > a1 then (some 1) else (some 0))))) = some r := H
  have A4 := Aside0.mk A40
  clear A40
  by_cases c5 : t106 = true
  · subst c5
    have H1 : (if t107 = true then (some 0) else (some (-1))) = some r := by rw [if_pos rfl] at H; exact H
    clear H
    have H := H1
    clear H1
    by_cases c6 : t107 = true
    · subst c6
      have H1 : (some 0) = some r := by rw [if_pos rfl] at H; exact H
      clear H
      have H := H1
      clear H1
      obtain rfl := Option.some.inj H
      go_enter Tryz.func181, Tryz.ntmps181
      go_wp2_with (first | ((with_reducible refine gate_callee (f := 200) rfl ?_); refine goesL_ (some 8) rfl rfl Tryz.func200 (by kernel_rfl) rfl #[.int .i64 a0] rfl (by (try simp only [List.map_toArray, List.map_cons, List.map_nil]); first | done | rfl | (simp only [List.length_drop, List.length_take]; rfl)) ?_; (with_reducible refine (cmp_isNaN_int.calls a0 true _ A3.out).mono ?_); rintro e w' ⟨rfl, ⟨nd, rfl⟩⟩; refine ⟨_, rfl, ?_⟩) | ((with_reducible refine gate_callee (f := 200) rfl ?_); refine goesL_ (some 10) rfl rfl Tryz.func200 (by kernel_rfl) rfl #[.int .i64 a1] rfl (by (try simp only [List.map_toArray, List.map_cons, List.map_nil]); first | done | rfl | (simp only [List.length_drop, List.length_take]; rfl)) ?_; (with_reducible refine (cmp_isNaN_int.calls a1 true _ A4.out).mono ?_); rintro e w' ⟨rfl, ⟨nd, rfl⟩⟩; refine ⟨_, rfl, ?_⟩))
      go_ret
      exact ⟨by first | rfl | (simp; done) | (simp [*]; done), by repeat (first | exact Drawn0.refl _ | apply Drawn0.step)⟩
    · replace c6 := Bool.eq_false_iff.mpr c6
      subst c6
      have H1 : (some (-1)) = some r := by rw [if_neg (show ¬ (false = true) by decide)] at H; exact H
      clear H
      have H := H1
      clear H1
      obtain rfl := Option.some.inj H
      go_enter Tryz.func181, Tryz.ntmps181
      go_wp2_with (first | ((with_reducible refine gate_callee (f := 200) rfl ?_); refine goesL_ (some 8) rfl rfl Tryz.func200 (by kernel_rfl) rfl #[.int .i64 a0] rfl (by (try simp only [List.map_toArray, List.map_cons, List.map_nil]); first | done | rfl | (simp only [List.length_drop, List.length_take]; rfl)) ?_; (with_reducible refine (cmp_isNaN_int.calls a0 true _ A3.out).mono ?_); rintro e w' ⟨rfl, ⟨nd, rfl⟩⟩; refine ⟨_, rfl, ?_⟩) | ((with_reducible refine gate_callee (f := 200) rfl ?_); refine goesL_ (some 10) rfl rfl Tryz.func200 (by kernel_rfl) rfl #[.int .i64 a1] rfl (by (try simp only [List.map_toArray, List.map_cons, List.map_nil]); first | done | rfl | (simp only [List.length_drop, List.length_take]; rfl)) ?_; (with_reducible refine (cmp_isNaN_int.calls a1 false _ A4.out).mono ?_); rintro e w' ⟨rfl, ⟨nd, rfl⟩⟩; refine ⟨_, rfl, ?_⟩))
      go_ret
      exact ⟨by first | rfl | (simp; done) | (simp [*]; done), by repeat (first | exact Drawn0.refl _ | apply Drawn0.step)⟩
  · replace c5 := Bool.eq_false_iff.mpr c5
    subst c5
    have H1 : (if t107 = true then (some 1) else (if a0 < a1 then (some (-1)) else (if a0 > a1 then (some 1) else (some 0)))) = some r := by rw [if_neg (show ¬ (false = true) by decide)] at H; exact H
    clear H
    have H := H1
    clear H1
    by_cases c7 : t107 = true
    · subst c7
      have H1 : (some 1) = some r := by rw [if_pos rfl] at H; exact H
      clear H
      have H := H1
      clear H1
      obtain rfl := Option.some.inj H
      go_enter Tryz.func181, Tryz.ntmps181
      go_wp2_with (first | ((with_reducible refine gate_callee (f := 200) rfl ?_); refine goesL_ (some 8) rfl rfl Tryz.func200 (by kernel_rfl) rfl #[.int .i64 a0] rfl (by (try simp only [List.map_toArray, List.map_cons, List.map_nil]); first | done | rfl | (simp only [List.length_drop, List.length_take]; rfl)) ?_; (with_reducible refine (cmp_isNaN_int.calls a0 false _ A3.out).mono ?_); rintro e w' ⟨rfl, ⟨nd, rfl⟩⟩; refine ⟨_, rfl, ?_⟩) | ((with_reducible refine gate_callee (f := 200) rfl ?_); refine goesL_ (some 10) rfl rfl Tryz.func200 (by kernel_rfl) rfl #[.int .i64 a1] rfl (by (try simp only [List.map_toArray, List.map_cons, List.map_nil]); first | done | rfl | (simp only [List.length_drop, List.length_take]; rfl)) ?_; (with_reducible refine (cmp_isNaN_int.calls a1 true _ A4.out).mono ?_); rintro e w' ⟨rfl, ⟨nd, rfl⟩⟩; refine ⟨_, rfl, ?_⟩))
      go_ret
      exact ⟨by first | rfl | (simp; done) | (simp [*]; done), by repeat (first | exact Drawn0.refl _ | apply Drawn0.step)⟩
    · replace c7 := Bool.eq_false_iff.mpr c7
      subst c7
      have H1 : (if a0 < a1 then (some (-1)) else (if a0 > a1 then (some 1) else (some 0))) = some r := by rw [if_neg (show ¬ (false = true) by decide)] at H; exact H
      clear H
      have H := H1
      clear H1
      by_cases c8 : a0 < a1
      · rw [if_pos c8] at H
        have c8b0 : decide (a0 < a1) = true := decide_eq_true c8
        clear c8
        obtain rfl := Option.some.inj H
        go_enter Tryz.func181, Tryz.ntmps181
        go_wp2_with (first | ((with_reducible refine gate_callee (f := 200) rfl ?_); refine goesL_ (some 8) rfl rfl Tryz.func200 (by kernel_rfl) rfl #[.int .i64 a0] rfl (by (try simp only [List.map_toArray, List.map_cons, List.map_nil]); first | done | rfl | (simp only [List.length_drop, List.length_take]; rfl)) ?_; (with_reducible refine (cmp_isNaN_int.calls a0 false _ A3.out).mono ?_); rintro e w' ⟨rfl, ⟨nd, rfl⟩⟩; refine ⟨_, rfl, ?_⟩) | ((with_reducible refine gate_callee (f := 200) rfl ?_); refine goesL_ (some 10) rfl rfl Tryz.func200 (by kernel_rfl) rfl #[.int .i64 a1] rfl (by (try simp only [List.map_toArray, List.map_cons, List.map_nil]); first | done | rfl | (simp only [List.length_drop, List.length_take]; rfl)) ?_; (with_reducible refine (cmp_isNaN_int.calls a1 false _ A4.out).mono ?_); rintro e w' ⟨rfl, ⟨nd, rfl⟩⟩; refine ⟨_, rfl, ?_⟩))
        go_ret
        exact ⟨by first | rfl | (simp; done) | (simp [*]; done), by repeat (first | exact Drawn0.refl _ | apply Drawn0.step)⟩
      · rw [if_neg c8] at H
        have c8b0 : decide (a0 < a1) = false := decide_eq_false c8
        clear c8
        by_cases c9 : a0 > a1
        · rw [if_pos c9] at H
          have c9b0 : decide (a1 < a0) = true := decide_eq_true c9
          clear c9
          obtain rfl := Option.some.inj H
          go_enter Tryz.func181, Tryz.ntmps181
          go_wp2_with (first | ((with_reducible refine gate_callee (f := 200) rfl ?_); refine goesL_ (some 8) rfl rfl Tryz.func200 (by kernel_rfl) rfl #[.int .i64 a0] rfl (by (try simp only [List.map_toArray, List.map_cons, List.map_nil]); first | done | rfl | (simp only [List.length_drop, List.length_take]; rfl)) ?_; (with_reducible refine (cmp_isNaN_int.calls a0 false _ A3.out).mono ?_); rintro e w' ⟨rfl, ⟨nd, rfl⟩⟩; refine ⟨_, rfl, ?_⟩) | ((with_reducible refine gate_callee (f := 200) rfl ?_); refine goesL_ (some 10) rfl rfl Tryz.func200 (by kernel_rfl) rfl #[.int .i64 a1] rfl (by (try simp only [List.map_toArray, List.map_cons, List.map_nil]); first | done | rfl | (simp only [List.length_drop, List.length_take]; rfl)) ?_; (with_reducible refine (cmp_isNaN_int.calls a1 false _ A4.out).mono ?_); rintro e w' ⟨rfl, ⟨nd, rfl⟩⟩; refine ⟨_, rfl, ?_⟩))
          go_ret
          exact ⟨by first | rfl | (simp; done) | (simp [*]; done), by repeat (first | exact Drawn0.refl _ | apply Drawn0.step)⟩
        · rw [if_neg c9] at H
          have c9b0 : decide (a1 < a0) = false := decide_eq_false c9
          clear c9
          obtain rfl := Option.some.inj H
          go_enter Tryz.func181, Tryz.ntmps181
          go_wp2_with (first | ((with_reducible refine gate_callee (f := 200) rfl ?_); refine goesL_ (some 8) rfl rfl Tryz.func200 (by kernel_rfl) rfl #[.int .i64 a0] rfl (by (try simp only [List.map_toArray, List.map_cons, List.map_nil]); first | done | rfl | (simp only [List.length_drop, List.length_take]; rfl)) ?_; (with_reducible refine (cmp_isNaN_int.calls a0 false _ A3.out).mono ?_); rintro e w' ⟨rfl, ⟨nd, rfl⟩⟩; refine ⟨_, rfl, ?_⟩) | ((with_reducible refine gate_callee (f := 200) rfl ?_); refine goesL_ (some 10) rfl rfl Tryz.func200 (by kernel_rfl) rfl #[.int .i64 a1] rfl (by (try simp only [List.map_toArray, List.map_cons, List.map_nil]); first | done | rfl | (simp only [List.length_drop, List.length_take]; rfl)) ?_; (with_reducible refine (cmp_isNaN_int.calls a1 false _ A4.out).mono ?_); rintro e w' ⟨rfl, ⟨nd, rfl⟩⟩; refine ⟨_, rfl, ?_⟩))
          go_ret
          exact ⟨by first | rfl | (simp; done) | (simp [*]; done), by repeat (first | exact Drawn0.refl _ | apply Drawn0.step)⟩
def cmp_Or_int.l0 : Nat → Int → List Int → Int → Int → Option (Int)
  | 0, _, _, _, _ => none
  | k + 1, x3, x6, x7, x8 => if x8 < x7 then (if 0 ≤ x8 then (if x8 < (x6.length : Int) then (if (rd x6 x8) = x3 then (cmp_Or_int.l0 k x3 x6 x7 (wrap64 (x8 + 1))) else (some (rd x6 x8))) else (none)) else (none)) else (some x3)
def cmp_Or_int.f (k : Nat) (l0 : List Int) : Option (Int) := cmp_Or_int.l0 k 0 l0 (l0.length : Int) 0
theorem cmp_Or_int.mono_l : ∀ k, (∀ y0 y1 y2 y3, LeO (cmp_Or_int.l0 k y0 y1 y2 y3) (cmp_Or_int.l0 (k + 1) y0 y1 y2 y3))
  | 0 => fun _ _ _ _ r h => by simp [cmp_Or_int.l0] at h
  | k + 1 => by
    have ih0 := cmp_Or_int.mono_l k
    · intro y0 y1 y2 y3
      unfold cmp_Or_int.l0
      repeat' first
      | (with_reducible exact ih0 _ _ _ _)
      | (with_reducible exact LeO.refl _)
      | (with_reducible exact LeO.none _)
      | (with_reducible refine LeO.ite ?_ ?_)
      | (with_reducible refine LeO.bind ?_ (fun _ => ?_))
      | exact ih0 _ _ _ _
      | exact LeO.none _
      | refine LeO.ite ?_ ?_
      | refine LeO.bind ?_ (fun _ => ?_)
theorem cmp_Or_int.mono : ∀ a0 k, LeO (cmp_Or_int.f k a0) (cmp_Or_int.f (k + 1) a0) := by
  intro a0 k
  have ih0 := cmp_Or_int.mono_l k
  unfold cmp_Or_int.f
  repeat' first
      | (with_reducible exact ih0 _ _ _ _)
      | (with_reducible exact LeO.refl _)
      | (with_reducible exact LeO.none _)
      | (with_reducible refine LeO.ite ?_ ?_)
      | (with_reducible refine LeO.bind ?_ (fun _ => ?_))
      | exact ih0 _ _ _ _
      | exact LeO.none _
      | refine LeO.ite ?_ ?_
      | refine LeO.bind ?_ (fun _ => ?_)
set_option maxHeartbeats 8000000 in
set_option maxRecDepth 100000 in
theorem cmp_Or_int.calls (k : Nat) (A0 : Option Addr) (c0 : Nat) (l0 : List Int) (r : Int) (w : World) (hr0 : Kd.C (Kd.int .i64) w A0 l0.length l0) (hc0 : l0.length ≤ c0) (h : cmp_Or_int.f k l0 = some r) :
    Calls Tryz.prog 180 #[.slice A0 l0.length c0] w fun e w' => e = .returned (.int .i64 r) ∧ Drawn0 w w' := by
  have HR0 := Aside0.mk hr0
  have HC0 := Aside0.mk hc0
  clear hr0 hc0
  have H : (cmp_Or_int.l0 k 0 l0 (l0.length : Int) 0) = some r := h
  clear h
  have H' := Aside0.mk H
  clear H
  go_enter Tryz.func180, Tryz.ntmps180
  go_wp2
  go_loopg [8] k (fun kq v8 w' => ∃ (x8_1 : Int), v8 = .int .i64 x8_1 ∧ Aside0 (cmp_Or_int.l0 kq 0 l0 (l0.length : Int) x8_1 = some r) ∧ Aside0 (kq ≤ k) ∧ Drawn0 w w')
  case atStart => exact ⟨(0), (by first | rfl | (simp; done) | (simp [*]; done)), H', ⟨Nat.le_refl _⟩, by repeat (first | exact Drawn0.refl _ | apply Drawn0.step)⟩
  case round =>
    clear H'
    try clear c1
    obtain ⟨x8_1, rfl, HA, HK1, ⟨m1, rfl⟩⟩ := hrel
    cases gk with
    | zero => exact absurd HA.out (by simp [cmp_Or_int.l0])
    | succ k1 =>
      have H := HA.out
      clear HA
      simp only [cmp_Or_int.l0] at H
      by_cases c2 : x8_1 < (l0.length : Int)
      · rw [if_pos c2] at H
        have c2b0 : decide (x8_1 < (l0.length : Int)) = true := decide_eq_true c2
        clear c2
        by_cases c3 : 0 ≤ x8_1
        · rw [if_pos c3] at H
          have c3b0 : decide (0 ≤ x8_1) = true := decide_eq_true c3
          clear c3
          by_cases c4 : x8_1 < (l0.length : Int)
          · rw [if_pos c4] at H
            have c4b0 : decide (x8_1 < (l0.length : Int)) = true := decide_eq_true c4
            clear c4
            by_cases c5 : (rd l0 x8_1) = 0
            · rw [if_pos c5] at H
              have c5b0 : ((rd l0 x8_1) == 0) = true := beq_iff_eq.mpr c5
              have c5b1 : ((rd l0 x8_1) != 0) = false := bne_eq_false_iff_eq.mpr c5
              clear c5
              have H' := Aside0.mk H
              clear H
              have p108 : 0 ≤ (x8_1 : Int) := of_decide_eq_true (by first | (with_reducible assumption) | assumption)
              have q108 : x8_1 < (l0.length : Int) := of_decide_eq_true (by first | (with_reducible assumption) | assumption)
              obtain ⟨ad108, e108, hx108_0⟩ := Kd.at_int HR0.out x8_1 p108 q108
              cases e108
              replace p108 := eq_true p108
              replace q108 := eq_true q108
              go_wp2
              go_roundg k1
              case measure => have := HK1.out; omega
              case rel => exact ⟨(wrap64 (x8_1 + 1)), (by first | rfl | (simp; done) | (simp [*]; done)), H', ⟨by have := HK1.out; omega⟩, by repeat (first | exact Drawn0.refl _ | apply Drawn0.step)⟩
            · rw [if_neg c5] at H
              have c5b0 : ((rd l0 x8_1) == 0) = false := beq_eq_false_iff_ne.mpr c5
              have c5b1 : ((rd l0 x8_1) != 0) = true := bne_iff_ne.mpr c5
              obtain rfl := Option.some.inj H
              have p108 : 0 ≤ (x8_1 : Int) := of_decide_eq_true (by first | (with_reducible assumption) | assumption)
              have q108 : x8_1 < (l0.length : Int) := of_decide_eq_true (by first | (with_reducible assumption) | assumption)
              obtain ⟨ad108, e108, hx108_0⟩ := Kd.at_int HR0.out x8_1 p108 q108
              cases e108
              replace p108 := eq_true p108
              replace q108 := eq_true q108
              go_wp2
              go_ret
              exact ⟨by first | rfl | (simp; done) | (simp [*]; done), by repeat (first | exact Drawn0.refl _ | apply Drawn0.step)⟩
          · rw [if_neg c4] at H
            exact absurd H (by simp)
        · rw [if_neg c3] at H
          exact absurd H (by simp)
      · rw [if_neg c2] at H
        have c2b0 : decide (x8_1 < (l0.length : Int)) = false := decide_eq_false c2
        clear c2
        obtain rfl := Option.some.inj H
        go_wp2
        go_ret
        exact ⟨by first | rfl | (simp; done) | (simp [*]; done), by repeat (first | exact Drawn0.refl _ | apply Drawn0.step)⟩
end Go.Proofs.YthfmlelodmcgkaaGreat.PO
end
section
namespace Go.Proofs.YthfmlelodmcgkaaGreat.V
open Go Go.Shelf Go.Proofs
def sortF_ren : Go.Shelf.Ren := ⟨fun | 6 => 156 | 15 => 154 | 14 => 179 | 28 => 177 | 29 => 178 | 20 => 192 | 21 => 193 | 22 => 194 | 23 => 195 | 24 => 196 | 25 => 197 | 26 => 198 | 27 => 199 | 46 => 204 | 47 => 188 | 48 => 189 | 49 => 205 | 50 => 206 | 57 => 208 | n => n, fun | 22 => 29 | 24 => 87 | 25 => 137 | 3 => 3 | 39 => 131 | 0 => 0 | 53 => 152 | 55 => 154 | 4 => 4 | 46 => 145 | 45 => 144 | 50 => 149 | 5 => 5 | 9 => 9 | 66 => 163 | 70 => 167 | 76 => 177 | 77 => 127 | n => n, fun | n => n⟩
theorem sortF : Go.Proofs.SlLaysF0.n6 Tryz.prog sortF_ren := {
  mixed := by kernel_rfl,
  f6 := ⟨Tryz.f156.name, by decide, Tryz.func156.trans (congrArg some (by kernel_rfl))⟩,
  f14 := ⟨Tryz.f179.name, by decide, Tryz.func179.trans (congrArg some (by kernel_rfl))⟩,
  f15 := Tryz.func154.trans (congrArg some (by kernel_rfl)),
  f20 := ⟨Tryz.f192.name, by decide, Tryz.func192.trans (congrArg some (by kernel_rfl))⟩,
  f21 := ⟨Tryz.f193.name, by decide, Tryz.func193.trans (congrArg some (by kernel_rfl))⟩,
  f22 := ⟨Tryz.f194.name, by decide, Tryz.func194.trans (congrArg some (by kernel_rfl))⟩,
  f23 := ⟨Tryz.f195.name, by decide, Tryz.func195.trans (congrArg some (by kernel_rfl))⟩,
  f24 := ⟨Tryz.f196.name, by decide, Tryz.func196.trans (congrArg some (by kernel_rfl))⟩,
  f25 := ⟨Tryz.f197.name, by decide, Tryz.func197.trans (congrArg some (by kernel_rfl))⟩,
  f26 := ⟨Tryz.f198.name, by decide, Tryz.func198.trans (congrArg some (by kernel_rfl))⟩,
  f27 := ⟨Tryz.f199.name, by decide, Tryz.func199.trans (congrArg some (by kernel_rfl))⟩,
  f28 := Tryz.func177.trans (congrArg some (by kernel_rfl)),
  f29 := Tryz.func178.trans (congrArg some (by kernel_rfl)),
  f46 := ⟨Tryz.f204.name, by decide, Tryz.func204.trans (congrArg some (by kernel_rfl))⟩,
  f47 := Tryz.func188.trans (congrArg some (by kernel_rfl)),
  f48 := Tryz.func189.trans (congrArg some (by kernel_rfl)),
  f49 := ⟨Tryz.f205.name, by decide, Tryz.func205.trans (congrArg some (by kernel_rfl))⟩,
  f50 := ⟨Tryz.f206.name, by decide, Tryz.func206.trans (congrArg some (by kernel_rfl))⟩,
  f57 := ⟨Tryz.f208.name, by decide, Tryz.func208.trans (congrArg some (by kernel_rfl))⟩,
  t0 := Tryz.underlying0,
  a0 := Tryz.isAgg0,
  z0 := Tryz.sizeOf0,
  v0 := Tryz.zeroValue0,
  t3 := Tryz.underlying3,
  a3 := Tryz.isAgg3,
  z3 := Tryz.sizeOf3,
  v3 := Tryz.zeroValue3,
  t4 := Tryz.underlying4,
  a4 := Tryz.isAgg4,
  z4 := Tryz.sizeOf4,
  v4 := Tryz.zeroValue4,
  t5 := Tryz.underlying5,
  a5 := Tryz.isAgg5,
  z5 := Tryz.sizeOf5,
  v5 := Tryz.zeroValue5,
  t9 := Tryz.underlying9,
  a9 := Tryz.isAgg9,
  z9 := Tryz.sizeOf9,
  v9 := Tryz.zeroValue9,
  t22 := Tryz.underlying29,
  a22 := Tryz.isAgg29,
  z22 := Tryz.sizeOf29,
  v22 := Tryz.zeroValue29,
  t25 := Tryz.underlying137,
  a25 := Tryz.isAgg137,
  z25 := Tryz.sizeOf137,
  v25 := Tryz.zeroValue137,
  t39 := Tryz.underlying131,
  a39 := Tryz.isAgg131,
  z39 := Tryz.sizeOf131,
  v39 := Tryz.zeroValue131,
  t45 := Tryz.underlying144,
  a45 := Tryz.isAgg144,
  z45 := Tryz.sizeOf144,
  v45 := Tryz.zeroValue144,
  t46 := Tryz.underlying145,
  a46 := Tryz.isAgg145,
  z46 := Tryz.sizeOf145,
  v46 := Tryz.zeroValue145,
  t50 := Tryz.underlying149,
  a50 := Tryz.isAgg149,
  z50 := Tryz.sizeOf149,
  v50 := Tryz.zeroValue149,
  t53 := Tryz.underlying152,
  a53 := Tryz.isAgg152,
  z53 := Tryz.sizeOf152,
  v53 := Tryz.zeroValue152,
  t55 := Tryz.underlying154,
  a55 := Tryz.isAgg154,
  z55 := Tryz.sizeOf154,
  v55 := Tryz.zeroValue154,
  t66 := Tryz.underlying163,
  a66 := Tryz.isAgg163,
  z66 := Tryz.sizeOf163,
  v66 := Tryz.zeroValue163,
  t70 := Tryz.underlying167,
  a70 := Tryz.isAgg167,
  z70 := Tryz.sizeOf167,
  v70 := Tryz.zeroValue167,
  t76 := Tryz.underlying177,
  a76 := Tryz.isAgg177,
  z76 := Tryz.sizeOf177,
  v76 := Tryz.zeroValue177,
  t77 := Tryz.underlying127,
  a77 := Tryz.isAgg127,
  z77 := Tryz.sizeOf127,
  v77 := Tryz.zeroValue127 }
end Go.Proofs.YthfmlelodmcgkaaGreat.V
namespace Go.Proofs.YthfmlelodmcgkaaGreat.V
open Go Go.RowKit Go.Proofs.YthfmlelodmcgkaaGreatW.PrintWords Go.Proofs.YthfmlelodmcgkaaGreatW.PrintLast Go.Proofs.YthfmlelodmcgkaaGreatW.PrintMore Go.Proofs.YthfmlelodmcgkaaGreat.PO
theorem cc64 (x y : Int) : cmp_Compare_int64.f x y = some (cmpI x y) := by
  simp only [cmp_Compare_int64.f, cmp_isNaN_int64.f, bne_self_eq_false, Option.bind_some, cmpI, Bool.false_eq_true, if_false]
  split
  · rfl
  · split <;> (first | rfl | (split <;> first | rfl | omega))
theorem cc (x y : Int) : cmp_Compare_int.f x y = some (cmpI x y) := by
  simp only [cmp_Compare_int.f, cmp_isNaN_int.f, bne_self_eq_false, Option.bind_some, cmpI, Bool.false_eq_true, if_false]
  split
  · rfl
  · split <;> (first | rfl | (split <;> first | rfl | omega))
theorem cS_l0 (a b : List Int) (ha : a.length ≤ 1099511627776) : ∀ (k i : Nat), i ≤ a.length → i ≤ b.length → a.length - i < k → slices_Compare_int64_int64.l0 k a b a (a.length : Int) (i : Int) = some (cmpL (a.drop i) (b.drop i))
  | 0, i, _, _, h => by omega
  | k + 1, i, hi, hb, h => by
    unfold slices_Compare_int64_int64.l0
    by_cases h1 : i < a.length
    · rw [if_pos (by omega), if_pos (by omega), if_pos (by omega)]
      by_cases h2 : i < b.length
      · rw [if_neg (by omega), if_pos (by omega), cc64, Option.bind_some, cmpL_s h1 h2]
        have e : wrap64 ((i : Int) + 1) = ((i + 1 : Nat) : Int) := by
          unfold wrap64; omega
        rw [e, cS_l0 a b ha k (i + 1) (by omega) (by omega) (by omega)]
        have e1 : rd a (i : Int) = a.getD i 0 := rfl
        have e2 : rd b (i : Int) = b.getD i 0 := rfl
        rw [e1, e2]
        split <;> rfl
      · rw [if_pos (by omega), cmpL_e h1 h2]
    · rw [if_neg (by omega), cmpL_0 h1]
      by_cases h2 : i < b.length
      · rw [if_pos (by omega), if_pos h2]
      · rw [if_neg (by omega), if_neg h2]
theorem cS (a b : List Int) (ha : a.length ≤ 1099511627776) : slices_Compare_int64_int64.f (a.length + 1) a b = some (cmpL a b) := by
  have := cS_l0 a b ha (a.length + 1) 0 (Nat.zero_le _) (Nat.zero_le _) (by omega)
  simpa [slices_Compare_int64_int64.f] using this
theorem cO (x y : Int) : cmp_Or_int.f 3 [x, y] = some (orL [x, y]) := by
  have e1 : wrap64 (0 + 1) = 1 := by unfold wrap64; omega
  have e2 : wrap64 (1 + 1) = 2 := by unfold wrap64; omega
  simp only [cmp_Or_int.f, cmp_Or_int.l0, rd, List.length_cons, List.length_nil, orL, e1, e2]
  simp
  split
  · split <;> rfl
  · rfl
def Grw (w w' : World) : Prop := ∃ q os, w' = Sort.grow (w.drewN q) os
theorem Grw.refl (w : World) : Grw w w := ⟨0, #[], by simp [Sort.grow, World.drewN]⟩
theorem Grw.alloc {w w' : World} (h : Grw w w') (o : Obj) : Grw w (w'.alloc o) := by
  obtain ⟨q, os, rfl⟩ := h
  exact ⟨q, os.push o, by simp [Sort.grow, World.alloc]⟩
theorem Grw.drewN {w w' : World} (h : Grw w w') (n : Nat) : Grw w (w'.drewN n) := by
  obtain ⟨q, os, rfl⟩ := h
  exact ⟨q + n, os, by simp [Sort.grow, World.drewN, Nat.add_assoc]⟩
theorem Grw.drew {w w' : World} (h : Grw w w') : Grw w w'.drew := h.drewN 1
theorem Grw.trans {a b c : World} (h : Grw a b) (k : Grw b c) : Grw a c := by
  obtain ⟨q, os, rfl⟩ := h
  obtain ⟨q', os', rfl⟩ := k
  exact ⟨q + q', os ++ os', by simp [Sort.grow, World.drewN, Nat.add_assoc, Array.append_assoc]⟩
theorem run_two (w : World) (p q : Int) : (Instr.buildSlice 75 2 #[(0, .int .i64 p), (1, .int .i64 q)]).run Tryz.prog w = .ok (.slice (some ⟨w.heap.size, 0, none⟩) 2 2) (w.alloc (.cells #[.int .i64 p, .int .i64 q] 3)) := by
  obtain ⟨i, h1, h2, h3, h4⟩ := y3_ok.info
  have h2 : i.size = 1 := h2
  refine run_buildSlice w 75 3 2 _ #[.int .i64 p, .int .i64 q] i (.int .i64 0) (slice_of y75_ok rfl) h1 h4 (by rw [h2]; decide) (by rw [h2]; decide) ?_
  rw [h2]
  simp [Instr.fill, Value.cells, Array.range_succ, Array.range_zero']
theorem two_C (W : World) (p q : Int) : Kd.C (Kd.int .i64) (W.alloc (.cells #[.int .i64 p, .int .i64 q] 3)) (some ⟨W.heap.size, 0, none⟩) 2 [p, q] := by
  refine ⟨rfl, by decide, fun _ => ⟨_, rfl, fun j x hj => ?_⟩⟩
  rcases j with _ | _ | j
  · simp at hj; subst hj
    refine ⟨[.int .i64 p], rfl, rfl, fun i u hu => ?_⟩
    rcases i with _ | i
    · simp at hu; subst hu
      show (W.alloc _).cell? ⟨W.heap.size, 0 + (0 * 1 + 0), none⟩ = _
      rw [World.cell?, heap_alloc_new]
      rfl
    · simp at hu
  · simp at hj; subst hj
    refine ⟨[.int .i64 q], rfl, rfl, fun i u hu => ?_⟩
    rcases i with _ | i
    · simp at hu; subst hu
      show (W.alloc _).cell? ⟨W.heap.size, 0 + (1 * 1 + 0), none⟩ = _
      rw [World.cell?, heap_alloc_new]
      rfl
    · simp at hu
  · simp at hj
theorem two_op {ops : Array Oper} {rest : List Oper} {o : Oper} {a : Act} {Q : Exit → Act → World → Prop} {W : World} (hgd : o.guard = none) {x y : Operand} (ho : o.op = .buildSlice 75 2 #[(0, x), (1, y)]) {p q : Int} (hx : a.eval x = .int .i64 p) (hy : a.eval y = .int .i64 q)
    (h : ∀ (ad : Option Addr) (W' : World), Kd.C (Kd.int .i64) W' ad 2 [p, q] → Grw W W' → wpList Tryz.prog ops Q rest (a.put o.dst (.slice ad 2 2)) W') : wpList Tryz.prog ops Q (o :: rest) a W := by
  refine Kd.event_run hgd ?_ (h _ _ (two_C W p q) ((Grw.refl W).alloc _))
  unfold execOp
  simp [ho, hx, hy, run_two, Result.andThen]
theorem wordOrder_grw (A0 : Option Addr) (c0 : Nat) (l0 : List Int) (A1 : Option Addr) (c1 : Nat) (l1 : List Int) (w : World) (h0 : l0.length ≤ 1099511627776) (hr0 : Kd.C (Kd.int .i64) w A0 l0.length l0) (hc0 : l0.length ≤ c0) (hr1 : Kd.C (Kd.int .i64) w A1 l1.length l1) (hc1 : l1.length ≤ c1) :
    Calls Tryz.prog 158 #[.slice A0 l0.length c0, .slice A1 l1.length c1] w fun e w' => e = .returned (.int .i64 (orL [cmpI l0.length l1.length, cmpL l0 l1])) ∧ Grw w w' := by
  have A3 := Aside0.mk (cc (l0.length : Int) (l1.length : Int))
  have A4 := Aside0.mk (cS l0 l1 h0)
  clear h0
  generalize cmpI (l0.length : Int) (l1.length : Int) = t109 at A3 ⊢
  generalize cmpL l0 l1 = t110 at A4 ⊢
  have A5 := Aside0.mk (cO t109 t110)
  generalize orL [t109, t110] = t114 at A5 ⊢
  generalize l0.length + 1 = kk at A4
  have HOr0 : ∀ (W : World) (A : Option Addr), Kd.C (Kd.int .i64) W A 2 [t109, t110] → Calls Tryz.prog 180 #[.slice A 2 2] W fun e w' => e = .returned (.int .i64 t114) ∧ Drawn0 W w' := fun W A h => cmp_Or_int.calls 3 A 2 [t109, t110] t114 W h (Nat.le_refl 2) A5.out
  have HOr := Aside0.mk HOr0
  clear HOr0
  have HR0 := Aside0.mk hr0
  have HC0 := Aside0.mk hc0
  clear hr0 hc0
  have HR1 := Aside0.mk hr1
  have HC1 := Aside0.mk hc1
  clear hr1 hc1
  go_enter Tryz.func158, Tryz.ntmps158
  go_wp2_with (first | ((with_reducible refine gate_callee (f := 181) rfl ?_); refine goesL_ (some 9) rfl rfl Tryz.func181 (by kernel_rfl) rfl #[.int .i64 (l0.length : Int), .int .i64 (l1.length : Int)] rfl (by (try simp only [List.map_toArray, List.map_cons, List.map_nil]); first | done | rfl) ?_; (with_reducible refine (cmp_Compare_int.calls (l0.length : Int) (l1.length : Int) t109 _ A3.out).mono ?_); rintro e w' ⟨rfl, ⟨nd, rfl⟩⟩; refine ⟨_, rfl, ?_⟩) | ((with_reducible refine gate_callee (f := 141) rfl ?_); refine goesL_ (some 12) rfl rfl Tryz.func141 (by kernel_rfl) rfl #[.slice A0 l0.length c0, .slice A1 l1.length c1] rfl (by (try simp only [List.map_toArray, List.map_cons, List.map_nil]); first | done | rfl) ?_; (with_reducible refine (slices_Compare_int64_int64.calls kk _ _ l0 _ _ l1 t110 _ ?side1 ?side2 ?side3 ?side4 A4.out).mono ?_); (case side1 => repeat (first | exact HR0.out | (with_reducible refine Kd.C_alloc ?_ _) | (with_reducible refine Kd.C_drewN ?_ _) | (with_reducible refine Kd.C_drew ?_))); (case side2 => exact HC0.out); (case side3 => repeat (first | exact HR1.out | (with_reducible refine Kd.C_alloc ?_ _) | (with_reducible refine Kd.C_drewN ?_ _) | (with_reducible refine Kd.C_drew ?_))); (case side4 => exact HC1.out); rintro e w' ⟨rfl, ⟨nd, rfl⟩⟩; refine ⟨_, rfl, ?_⟩) | ((with_reducible refine gate_dst (N := 13) rfl ?_); refine two_op rfl rfl (p := t109) (q := t110) ?hx ?hy ?_; (case hx => first | rfl | (go_simp; done)); (case hy => first | rfl | (go_simp; done)); intro ad6 w6 hC6 hG6; have HC6 := Aside0.mk hC6; have HG6 := Aside0.mk hG6; clear hC6 hG6) | ((with_reducible refine gate_callee (f := 180) rfl ?_); refine goesL_ (some 14) rfl rfl Tryz.func180 (by kernel_rfl) rfl #[.slice ad6 2 2] rfl (by (try simp only [List.map_toArray, List.map_cons, List.map_nil]); first | done | rfl) ?_; (with_reducible refine (HOr.out _ _ HC6.out).mono ?_); rintro e w' ⟨rfl, ⟨nd, rfl⟩⟩; refine ⟨_, rfl, ?_⟩))
  go_ret
  exact ⟨rfl, (Grw.trans (by repeat (first | exact Grw.refl _ | apply Grw.alloc | apply Grw.drewN | apply Grw.drew)) HG6.out).drewN _⟩
theorem sumCmp_grw (A0 : Option Addr) (c0 : Nat) (l0 : List Int) (v0 : Value) (A1 : Option Addr) (c1 : Nat) (l1 : List Int) (v1 : Value) (w : World) (h0 : l0.length ≤ 1099511627776) (hr0 : Kd.C (Kd.int .i64) w A0 l0.length l0) (hc0 : l0.length ≤ c0) (hr1 : Kd.C (Kd.int .i64) w A1 l1.length l1) (hc1 : l1.length ≤ c1) :
    Calls Tryz.prog 157 #[.agg #[.slice A0 l0.length c0, v0], .agg #[.slice A1 l1.length c1, v1]] w fun e w' => e = .returned (.int .i64 (orL [cmpI l0.length l1.length, cmpL l0 l1])) ∧ Grw w w' := by
  have HR0 := Aside0.mk hr0
  have HR1 := Aside0.mk hr1
  clear hr0 hr1
  have hcon := fun W H0 H1 => wordOrder_grw A0 c0 l0 A1 c1 l1 W h0 H0 hc0 H1 hc1
  clear h0 hc0 hc1
  generalize orL [cmpI l0.length l1.length, cmpL l0 l1] = r at hcon ⊢
  have HH := Aside0.mk hcon
  clear hcon
  go_enter Tryz.func157, Tryz.ntmps157
  go_wp2_with (first | (go_at_call 158; refine (HH.out _ ?s1 ?s2).mono ?_; (case s1 => repeat (first | exact HR0.out | (with_reducible refine Kd.C_alloc ?_ _) | (with_reducible refine Kd.C_drewN ?_ _) | (with_reducible refine Kd.C_drew ?_))); (case s2 => repeat (first | exact HR1.out | (with_reducible refine Kd.C_alloc ?_ _) | (with_reducible refine Kd.C_drewN ?_ _) | (with_reducible refine Kd.C_drew ?_))); rintro e w' ⟨rfl, hG⟩; have HG := Aside0.mk hG; clear hG))
  go_ret
  exact ⟨rfl, Grw.trans (by repeat (first | exact Grw.refl _ | apply Grw.alloc | apply Grw.drewN | apply Grw.drew)) HG.out⟩
end Go.Proofs.YthfmlelodmcgkaaGreat.V
namespace Go.Proofs.YthfmlelodmcgkaaGreat.V
open Go
theorem lex_irrefl : ∀ (a : List Int), lexLt a a = false
  | [] => rfl
  | x :: a => by rw [lexLt, if_pos rfl]; exact lex_irrefl a
theorem lex_trans : ∀ {a b c : List Int}, lexLt a b = true → lexLt b c = true → lexLt a c = true
  | [], _, _, h, _ => by cases h
  | _ :: _, [], _, h, _ => by cases h
  | _ :: _, _ :: _, [], _, h => by cases h
  | x :: a, y :: b, z :: c, h, k => by
    rw [lexLt] at h k ⊢
    by_cases e1 : x = y
    · subst e1
      rw [if_pos rfl] at h
      by_cases e2 : x = z
      · subst e2
        rw [if_pos rfl] at k
        rw [if_pos rfl]
        exact lex_trans h k
      · rw [if_neg e2] at k ⊢; exact k
    · rw [if_neg e1] at h
      have h := of_decide_eq_true h
      by_cases e2 : y = z
      · subst e2
        rw [if_neg e1]; exact decide_eq_true h
      · rw [if_neg e2] at k
        have k := of_decide_eq_true k
        rw [if_neg (by omega)]
        exact decide_eq_true (by omega)
theorem lex_total : ∀ {a b : List Int}, a.length = b.length → lexLt a b = false → lexLt b a = false → a = b
  | [], [], _, _, _ => rfl
  | [], _ :: _, h, _, _ => by simp at h
  | _ :: _, [], h, _, _ => by simp at h
  | x :: a, y :: b, h, h1, h2 => by
    rw [lexLt] at h1 h2
    by_cases e : x = y
    · subst e
      rw [if_pos rfl] at h1 h2
      rw [lex_total (by simpa using h) h1 h2]
    · rw [if_neg e] at h1
      rw [if_neg (Ne.symm e)] at h2
      have h1 := of_decide_eq_false h1
      have h2 := of_decide_eq_false h2
      omega
theorem before_irrefl (a : List Int) : beforeB a a = false := by rw [beforeB, if_pos rfl]; exact lex_irrefl a
theorem before_trans {a b c : List Int} (h : beforeB a b = true) (k : beforeB b c = true) : beforeB a c = true := by
  unfold beforeB at *
  by_cases e1 : a.length = b.length
  · rw [if_pos e1] at h
    by_cases e2 : b.length = c.length
    · rw [if_pos e2] at k
      rw [if_pos (e1.trans e2)]
      exact lex_trans h k
    · rw [if_neg e2] at k
      have k := of_decide_eq_true k
      rw [if_neg (by omega)]
      exact decide_eq_true (by omega)
  · rw [if_neg e1] at h
    have h := of_decide_eq_true h
    by_cases e2 : b.length = c.length
    · rw [if_neg (by omega)]
      exact decide_eq_true (by omega)
    · rw [if_neg e2] at k
      have k := of_decide_eq_true k
      rw [if_neg (by omega)]
      exact decide_eq_true (by omega)
theorem before_total {a b : List Int} (h : beforeB a b = false) (k : beforeB b a = false) : a = b := by
  unfold beforeB at *
  by_cases e : a.length = b.length
  · rw [if_pos e] at h
    rw [if_pos e.symm] at k
    exact lex_total e h k
  · rw [if_neg e] at h
    rw [if_neg (Ne.symm e)] at k
    have h := of_decide_eq_false h
    have k := of_decide_eq_false k
    omega
theorem before_asymm {a b : List Int} (h : beforeB a b = true) : beforeB b a = false := by
  rw [← Bool.not_eq_true]
  intro k
  have := before_trans h k
  rw [before_irrefl] at this
  cases this
theorem before_ntrans {a b c : List Int} (h : beforeB a b = false) (k : beforeB b c = false) : beforeB a c = false := by
  rw [← Bool.not_eq_true]
  intro q
  by_cases e : beforeB b a = true
  · have := before_trans e q
    rw [k] at this; cases this
  · have e : beforeB b a = false := by simpa using e
    rw [before_total h e] at q
    rw [q] at k; cases k
theorem before_of {a b : List Int} (h : beforeB b a = false) (hne : a ≠ b) : beforeB a b = true := by
  rw [← Bool.not_eq_false]
  exact fun k => hne (before_total k h)
def SortedT (l : TermL) : Prop := l.Pairwise fun x y => beforeB x.1 y.1 = true
theorem sorted_unique : ∀ {l m : TermL}, SortedT l → SortedT m → (∀ x, x ∈ l ↔ x ∈ m) → l = m
  | [], [], _, _, _ => rfl
  | [], y :: m, _, _, h => absurd ((h y).2 List.mem_cons_self) (by simp)
  | x :: l, [], _, _, h => absurd ((h x).1 List.mem_cons_self) (by simp)
  | x :: l, y :: m, hl, hm, h => by
    obtain ⟨l1, l2⟩ := List.pairwise_cons.1 hl
    obtain ⟨m1, m2⟩ := List.pairwise_cons.1 hm
    have e : x = y := by
      rcases List.mem_cons.1 ((h x).1 List.mem_cons_self) with e | hx
      · exact e
      · rcases List.mem_cons.1 ((h y).2 List.mem_cons_self) with e | hy
        · exact e.symm
        · have := before_trans (l1 y hy) (m1 x hx)
          rw [before_irrefl] at this; cases this
    subst e
    have nx : ∀ z ∈ l, z ≠ x := fun z hz e => by
      have := l1 z hz
      rw [e, before_irrefl] at this; cases this
    have ny : ∀ z ∈ m, z ≠ x := fun z hz e => by
      have := m1 z hz
      rw [e, before_irrefl] at this; cases this
    rw [sorted_unique l2 m2 fun z => ⟨fun hz => ((List.mem_cons.1 ((h z).1 (List.mem_cons_of_mem _ hz))).resolve_left (nx z hz)), fun hz => ((List.mem_cons.1 ((h z).2 (List.mem_cons_of_mem _ hz))).resolve_left (ny z hz))⟩]
def sortT (l : TermL) : TermL := l.mergeSort fun x y => !beforeB y.1 x.1
theorem sortT_perm (l : TermL) : (sortT l).Perm l := List.mergeSort_perm ..
theorem sortT_mem {l : TermL} {x : List Int × Int} : x ∈ sortT l ↔ x ∈ l := (sortT_perm l).mem_iff
theorem sortT_length (l : TermL) : (sortT l).length = l.length := (sortT_perm l).length_eq
theorem strict_of {l : TermL} (h : l.Pairwise fun x y => beforeB y.1 x.1 = false) (hn : (l.map (·.1)).Nodup) : SortedT l := by
  induction l with
  | nil => exact List.Pairwise.nil
  | cons x l ih =>
    obtain ⟨h1, h2⟩ := List.pairwise_cons.1 h
    simp only [List.map_cons, List.nodup_cons] at hn
    exact List.pairwise_cons.2 ⟨fun y hy => before_of (h1 y hy) (fun e => hn.1 (e ▸ List.mem_map.2 ⟨y, hy, rfl⟩)), ih h2 hn.2⟩
theorem sortT_sorted {l : TermL} (hn : (l.map (·.1)).Nodup) : SortedT (sortT l) := by
  refine strict_of ?_ (((sortT_perm l).map _).nodup_iff.2 hn)
  have := List.pairwise_mergeSort (le := fun x y : List Int × Int => !beforeB y.1 x.1) (fun a b c h k => by
    simp only [Bool.not_eq_true'] at h k ⊢
    exact before_ntrans k h) (fun a b => by
    cases h : beforeB b.1 a.1 with
    | false => rfl
    | true => rw [before_asymm h]; rfl) l
  exact this.imp (fun h => by simpa using h)
theorem sortT_eq {l m : TermL} (hm : SortedT m) (hn : (l.map (·.1)).Nodup) (h : ∀ x, x ∈ l ↔ x ∈ m) : sortT l = m :=
  sorted_unique (sortT_sorted hn) hm fun x => sortT_mem.trans (h x)
end Go.Proofs.YthfmlelodmcgkaaGreat.V
namespace Go.Proofs.YthfmlelodmcgkaaGreat.V
open Go Go.RowKit Go.Proofs.YthfmlelodmcgkaaGreatW.PrintWords Go.Proofs.YthfmlelodmcgkaaGreatW.PrintLast Go.Proofs.YthfmlelodmcgkaaGreatW.PrintMore
def sp_sortT : List Cv → List Obj' → Tree
  | [.one (.own 0), .one (.v u)], [.drow t (.pr (.sl 2 (.int .i64)) (.int .i64)) ts] => .need (u = .func (.func 157) #[] #[] ∧ ts.length ≤ 1000000 ∧ (∀ x ∈ (ts : TermL), x.1.length ≤ 1099511627776) ∧ ((ts : TermL).map (·.1)).Nodup) (.ret (.tup []) [.drow t (.pr (.sl 2 (.int .i64)) (.int .i64)) (sortT ts)])
  | _, _ => .fail
section
variable {α : Type}
theorem flat_get {β : Type} (enc : α → List β) (k : Nat) (k0 : 0 < k) (hk : ∀ x, (enc x).length = k) : ∀ (l : List α) (t : Nat), (l.flatMap enc)[t]? = (l[t / k]?).bind fun x => (enc x)[t % k]?
  | [], t => by simp
  | x :: l, t => by
    rw [List.flatMap_cons]
    by_cases h : t < k
    · rw [List.getElem?_append_left (by rw [hk]; exact h), Nat.div_eq_of_lt h, Nat.mod_eq_of_lt h]
      rfl
    · rw [List.getElem?_append_right (by rw [hk]; omega), hk, flat_get enc k k0 hk l (t - k)]
      have e1 : t / k = (t - k) / k + 1 := by
        rw [← Nat.add_div_right _ k0]; congr 1; omega
      have e2 : t % k = (t - k) % k := by
        rw [← Nat.add_mod_right (t - k) k]; congr 1; omega
      rw [e1, e2, List.getElem?_cons_succ]
theorem flatK_list [Inhabited α] (enc : α → List Value) (k : Nat) (k0 : 0 < k) (hk : ∀ x, (enc x).length = k) (d : Array α) : (Go.Sort.flatK enc k d).toList = d.toList.flatMap enc := by
  apply List.ext_getElem?
  intro t
  rw [flat_get enc k k0 hk]
  by_cases h : t < d.size * k
  · have hd : t / k < d.size := (Nat.div_lt_iff_lt_mul k0).2 h
    have hm : t % k < (enc d[t / k]!).length := by rw [hk]; exact Nat.mod_lt _ k0
    have e := Go.Sort.get_flatK enc k d t h
    have hs : t < (Go.Sort.flatK enc k d).size := by simpa using h
    rw [getElem!_pos _ t hs] at e
    rw [Array.getElem?_toList, Array.getElem?_eq_getElem hs, e, Array.getElem?_toList, Array.getElem?_eq_getElem hd, Option.bind_some]
    rw [getElem!_pos d _ hd] at hm ⊢
    rw [getElem!_pos (enc d[t / k]) (t % k) hm, List.getElem?_eq_getElem hm]
  · have hd : ¬ t / k < d.size := fun h' => h ((Nat.div_lt_iff_lt_mul k0).1 h')
    rw [Array.getElem?_toList, Array.getElem?_eq_none (by simpa using h), Array.getElem?_toList, Array.getElem?_eq_none (by omega)]
    rfl
end
theorem putCells_take (F c : Array Value) (h : F.size ≤ c.size) : (Go.Sort.putCells id 0 F c).toList.take F.size = F.toList := by
  apply List.ext_getElem?
  intro t
  rw [List.getElem?_take]
  by_cases ht : t < F.size
  · rw [if_pos ht]
    have hc : t < c.size := by omega
    simp [Go.Sort.putCells, ht, hc]
  · rw [if_neg ht]
    simp [ht]
section
variable {α : Type} [Inhabited α] {enc : α → List Value} {k g m : Nat} {w : World} {d : Array α} {os : Array Obj}
theorem sw_at {cur : Array Value} {t : TypeId} {fr : Nat × Nat} (h : w.heap[g]? = some (.cells cur t fr)) : (Go.Proofs.sortWorldK enc k w g 0 m d os).heap[g]? = some (.cells (Go.Sort.putCells id 0 (Go.Sort.flatK enc k d) cur) t fr) := by
  have hg : g < w.heap.size := (Array.getElem?_eq_some_iff.1 h).1
  show ((w.heap.modify g (Go.Sort.onCells _)) ++ os)[g]? = _
  rw [Array.getElem?_append_left (by simpa using hg), Array.getElem?_modify, if_pos rfl, h]
  rfl
theorem sw_other {b : Nat} (hb : b < w.heap.size) (hne : b ≠ g) : (Go.Proofs.sortWorldK enc k w g 0 m d os).heap[b]? = w.heap[b]? := by
  show ((w.heap.modify g (Go.Sort.onCells _)) ++ os)[b]? = _
  rw [Array.getElem?_append_left (by simpa using hb), Array.getElem?_modify, if_neg (Ne.symm hne)]
theorem sw_grown : w.grownBy (Go.Proofs.sortWorldK enc k w g 0 m d os) (some g) :=
  ⟨rfl, rfl, rfl, by show w.heap.size ≤ ((w.heap.modify g (Go.Sort.onCells _)) ++ os).size; simp, fun b hb hne => sw_other hb (fun e => hne (by rw [e]))⟩
end
def SrtQ (w : World) (g : Nat) (p : (List Int × Int) × List Value) : Prop :=
  p.2.length = 2 ∧ (∀ v ∈ p.2, v.oneCell' = true) ∧ ∃ A c v, p.2 = [.slice A p.1.1.length c, v] ∧ p.1.1.length ≤ c ∧ p.1.1.length ≤ 1099511627776 ∧ ∀ W : World, (∀ b, b < w.heap.size → b ≠ g → W.heap[b]? = w.heap[b]?) → Kd.C (Kd.int .i64) W A p.1.1.length p.1.1
theorem srtQ_of {w : World} {g : Nat} {ψ : Nat → Prop} {x : List Int × Int} {c : List Value} (h : DRep w kTerm ψ x c) (hg : ¬ ψ g) (hl : x.1.length ≤ 1099511627776) : SrtQ w g (x, c) := by
  obtain ⟨c1, c2, φ1, φ2, rfl, ⟨u, xs, φ', rfl, h1, h2, h3, h4, h5⟩, ⟨rfl, k1, k2⟩, h6, h7⟩ := h
  obtain ⟨ad, c, rfl, h8, h9⟩ := own_cells h1
  have hr : xs = (x.1 : List Int).map (Value.int .i64) := Reps.ints (h2.reps (F := fun _ => True) (w := w) fun ψ y c _ h => ⟨h.1, h.2.1⟩)
  refine ⟨rfl, fun v hv => ?_, ad, c, .int .i64 x.2, rfl, h8, hl, fun W hW => ⟨rfl, ?_, fun hn => ?_⟩⟩
  · simp at hv
    rcases hv with rfl | rfl <;> rfl
  · show x.1.length ≤ _
    omega
  · have hx : xs ≠ [] := fun e => by
      rw [hr] at e
      have := congrArg List.length e
      simp at this
      have hn : 0 < x.1.length := hn
      rw [this] at hn
      simp at hn
    obtain ⟨b, rfl, hb, hc⟩ := h9 hx
    have hψ : ψ b := (h6 b).2 (.inl ((h4 b).2 (.inl hb)))
    refine ⟨⟨b, 0, none⟩, rfl, fun j y hj => ⟨[.int .i64 y], rfl, rfl, fun i v hv => ?_⟩⟩
    rcases i with _ | i
    · simp at hv
      subst hv
      have hjl : j < xs.length := by
        rw [hr, List.length_map]
        exact (List.getElem?_eq_some_iff.1 hj).1
      have e := hc j hjl
      have hblt := World.block_lt_of_cell? w _ e
      have e2 : xs[j] = .int .i64 y := by
        have : xs[j]? = some (.int .i64 y) := by rw [hr, List.getElem?_map, hj]; rfl
        rw [List.getElem?_eq_getElem hjl] at this
        injection this
      rw [e2] at e
      rw [show (Kd.int .i64).sz = 1 from rfl, Addr.add_lit, Nat.zero_add, Nat.mul_one, Nat.add_zero]
      exact (World.cell?_of_block (hW b hblt (fun e => hg (e ▸ hψ)))).trans e
    · simp at hv
def srtC (x y : List Int × Int) : Int := orL [cmpI x.1.length y.1.length, cmpL x.1 y.1]
theorem srtC_lt (x y : List Int × Int) : Go.Proofs.ltOf srtC x y = beforeB x.1 y.1 := by
  have h := order_before x.1 y.1
  unfold Go.Proofs.ltOf srtC
  cases hb : beforeB x.1 y.1 with
  | true =>
    rw [hb] at h
    have h := of_decide_eq_false h
    exact decide_eq_true (by omega)
  | false =>
    rw [hb] at h
    have h := of_decide_eq_true h
    exact decide_eq_false (by omega)
end Go.Proofs.YthfmlelodmcgkaaGreat.V
namespace Go.Proofs.YthfmlelodmcgkaaGreat.V
open Go Go.RowKit Go.Proofs.YthfmlelodmcgkaaGreatW.PrintWords Go.Proofs.YthfmlelodmcgkaaGreatW.PrintLast Go.Proofs.YthfmlelodmcgkaaGreatW.PrintMore
theorem sort_run {w : World} {g cap : Nat} {t : TypeId} {cur : Array Value} {ps : List ((List Int × Int) × List Value)} (hg : w.heap[g]? = some (.cells cur t (0, 0))) (hne : ps ≠ []) (hQ : ∀ p ∈ ps, SrtQ w g p) (hlen : ps.length ≤ 1000000) (hcur : ps.length * 2 ≤ cur.size) (htake : cur.toList.take (ps.length * 2) = ps.flatMap (·.2)) :
    Calls Tryz.prog 156 #[.slice (some ⟨g, 0, none⟩) ps.length cap, .func (.func 157) #[] #[]] w fun e w' => e = .returned (.tuple #[]) ∧
      ∃ (qs : List ((List Int × Int) × List Value)) (cur' : Array Value), qs.Perm ps ∧ (qs.map (·.1)).Pairwise (fun x y => beforeB y.1 x.1 = false) ∧ w.grownBy w' (some g) ∧ w'.heap[g]? = some (.cells cur' t (0, 0)) ∧ cur'.size = cur.size ∧ cur'.toList.take (ps.length * 2) = qs.flatMap (·.2) := by
  obtain ⟨p0, hp0⟩ := List.exists_mem_of_ne_nil ps hne
  let α := {p // SrtQ w g p}
  haveI : Inhabited α := ⟨⟨p0, hQ p0 hp0⟩⟩
  let enc : α → List Value := fun x => x.1.2
  let d : Array α := (ps.attachWith _ hQ).toArray
  let cf : α → α → Int := fun x y => srtC x.1.1 y.1.1
  have hv : (ps.attachWith _ hQ).map Subtype.val = ps := List.attachWith_map_subtype_val ..
  have hd : d.size = ps.length := by
    show (ps.attachWith _ hQ).length = _
    rw [← congrArg List.length hv, List.length_map]
  have hk : ∀ x, (enc x).length = 2 := fun x => x.2.1
  have hlt : ∀ x y, Go.Proofs.ltOf cf x y = beforeB x.1.1.1 y.1.1.1 := fun x y => srtC_lt x.1.1 y.1.1
  have hO : Go.Sort.SWO (Go.Proofs.ltOf cf) := ⟨fun x => by rw [hlt]; exact before_irrefl _, fun x y z h k => by rw [hlt] at *; exact before_trans h k, fun x y z h k => by rw [hlt] at *; exact before_ntrans h k⟩
  have hcmp : Go.Proofs.CmpLays Tryz.prog 157 #[] enc 2 cf g 0 d.size w := fun m os dk hs x y => by
    obtain ⟨_, _, A, c, v, ex, hc, hl, hC⟩ := x.2
    obtain ⟨_, _, A', c', v', ey, hc', hl', hC'⟩ := y.2
    have := sumCmp_grw A c x.1.1.1 v A' c' y.1.1.1 v' (Go.Proofs.sortWorldK enc 2 w g 0 m dk os) hl (hC _ (fun b hb hne => sw_other hb hne)) hc (hC' _ (fun b hb hne => sw_other hb hne)) hc'
    have ex' : enc x = [.slice A x.1.1.1.length c, v] := ex
    have ey' : enc y = [.slice A' y.1.1.1.length c', v'] := ey
    rw [ex', ey', Array.append_empty]
    exact this
  have hfl : (Go.Sort.flatK enc 2 d).toList = ps.flatMap (·.2) := by
    rw [flatK_list enc 2 (by decide) hk]
    show ((ps.attachWith _ hQ).toArray.toList).flatMap enc = _
    have e : ps.flatMap (·.2) = ((ps.attachWith _ hQ).map Subtype.val).flatMap (·.2) := by rw [hv]
    rw [e, List.flatMap_map]
  have hfs : (Go.Sort.flatK enc 2 d).size = ps.length * 2 := by rw [Go.Sort.size_flatK, hd]
  have hH : Go.Sort.HoldsK enc 2 w g 0 d := fun j hj => by
    rw [hfs] at hj
    have e1 : cur[j]? = some ((Go.Sort.flatK enc 2 d)[j]!) := by
      have : (cur.toList.take (ps.length * 2))[j]? = some ((Go.Sort.flatK enc 2 d)[j]!) := by
        rw [htake, ← hfl, Array.getElem?_toList, getElem!_pos _ j (by rw [hfs]; exact hj), Array.getElem?_eq_getElem (by rw [hfs]; exact hj)]
      rw [List.getElem?_take, if_pos hj] at this
      simpa using this
    constructor
    · rw [World.cell?, hg, Nat.zero_add]
      simpa using e1
    · rw [World.frozen?, hg]
      simp
  have hcon := Go.Proofs.AnyQ.slices_SortFunc sortF 2 (fun w => y87_ok.isAgg w) (fun w => y87_ok.sizeOf w) enc hk (fun x => x.2.2.1) cf hO 157 #[] g 0 cap d w (ent Tryz.func157 rfl rfl) hcmp hH (Array.getElem?_eq_some_iff.1 hg).1 (by rw [hd]; omega)
  change Calls Tryz.prog 156 _ _ _ at hcon
  rw [hd] at hcon
  refine hcon.mono ?_
  rintro e w' ⟨rfl, d', n, os, ⟨hp1, _, hp3⟩, hsort, rfl⟩
  have hd' : d'.size = ps.length := hp1.trans hd
  have hperm : d'.toList.Perm d.toList := by
    have e1 : d'.extract 0 ps.length = d' := by rw [← hd']; simp
    have e2 : d.extract 0 ps.length = d := by rw [← hd]; simp
    rw [e1, e2] at hp3
    exact hp3
  have hfl' : (Go.Sort.flatK enc 2 d').toList = (d'.toList.map (·.1)).flatMap (·.2) := by
    rw [flatK_list enc 2 (by decide) hk, List.flatMap_map]
  have hfs' : (Go.Sort.flatK enc 2 d').size = ps.length * 2 := by rw [Go.Sort.size_flatK, hd']
  refine ⟨rfl, d'.toList.map (·.1), _, ?_, ?_, sw_grown, sw_at hg, by simp [Go.Sort.putCells], ?_⟩
  · have := hperm.map (fun x : α => x.1)
    rw [show d.toList.map (fun x : α => x.1) = ps from hv] at this
    exact this
  · rw [List.map_map, List.pairwise_map, List.pairwise_iff_getElem]
    intro i j hi hj hij
    have hj' : j < d'.size := by simpa using hj
    have hi' : i < d'.size := by omega
    have := hsort i j (Nat.zero_le _) hij (by omega)
    rw [hlt, getElem!_pos d' j hj', getElem!_pos d' i hi'] at this
    simpa using this
  · have := putCells_take (Go.Sort.flatK enc 2 d') cur (by rw [hfs']; exact hcur)
    rw [hfs', hfl'] at this
    exact this
theorem good_sortT : Good Tryz.prog 156 sp_sortT := by
  intro E0 cs os0 vs Kc hF hD h16 hO hdis hnof ha hK
  have hI := Inv.enter hF hD h16 hO hdis hnof
  unfold sp_sortT at hK
  split at hK
  case h_2 => exact hK.elim
  rename_i u t ts
  obtain ⟨u1, u2, rfl, hu1, hu2⟩ := two_args ha
  obtain ⟨⟨hD0, rfl⟩, hone⟩ := hu1
  obtain ⟨⟨rfl, _⟩, _⟩ := hu2
  obtain ⟨⟨rfl, hlen, hwl, hnd⟩, hK⟩ := hK
  obtain ⟨⟨xs, φ', k1, k2, k3, k4, k5⟩, _⟩ := hO 0 (by simp)
  by_cases h0 : ts = []
  · subst h0
    obtain ⟨ad, c, e, _⟩ := own_cells k1
    have hc := Go.Proofs.AnyF.slices_SortFunc_none sortF ad c (.func (.func 157) #[] #[]) E0.w
    change Calls Tryz.prog 156 _ _ _ at hc
    have e' : E0.σ 0 = .slice ad 0 c := e
    rw [e']
    refine hc.mono ?_
    rintro e w' ⟨rfl, rfl⟩
    exact ⟨.tup [], .tuple #[], _, E0, rfl, hK, by simp, rfl, by
      have : sortT [] = [] := by simp [sortT]
      rw [this]
      exact hI, ⟨[], rfl, trivial⟩⟩
  · obtain ⟨hl, h2⟩ := id k1
    rcases h2 with ⟨e, n0⟩ | ⟨g, cap, cur, e, _, hg, hcap, hcm, hcs, htake⟩
    · exact absurd (List.eq_nil_of_length_eq_zero n0) h0
    · obtain ⟨ps, e1, e2, hps⟩ := DR.pairs k2
      have hpl : ts.length = ps.length := by rw [e1, List.length_map]
      have hbg : blkOf (E0.σ 0) = some g := by rw [e]; rfl
      have hQ : ∀ p ∈ ps, SrtQ E0.w g p := fun p hp => by
        obtain ⟨ψ, q1, q2⟩ := hps.mem hp
        exact srtQ_of q1 (fun h => k5 g hbg (q2 g h)) (hwl p.1 (by rw [e1]; exact List.mem_map.2 ⟨p, hp, rfl⟩))
      have hne : ps ≠ [] := fun h => h0 (by rw [e1, h]; rfl)
      have hrun := sort_run (cap := cap) hg hne hQ (by rw [← hpl]; exact hlen) (by rw [hcs, ← hpl]; exact Nat.mul_le_mul_right 2 hcap) (by rw [← hpl, ← e2]; exact htake)
      rw [e, hpl]
      refine hrun.mono ?_
      rintro e' w' ⟨rfl, qs, cur', hp1, hp2, hp3, hp4, hp5, hp6⟩
      have hqs : qs.map (·.1) = sortT ts := by
        have hperm : (qs.map (·.1)).Perm ts := by rw [e1]; exact hp1.map _
        exact (sortT_eq (l := ts) (strict_of hp2 ((hperm.map _).nodup_iff.2 hnd)) hnd (fun x => hperm.symm.mem_iff)).symm
      have hql : qs.length = ts.length := by rw [hp1.length_eq, hpl]
      obtain ⟨E', m1, m2, m3⟩ := hI.upd (i := 0) (b := g) (o := .drow t kTerm ts) rfl rfl ((k4 g).2 (.inl hbg)) hp3 (.drow t kTerm (sortT ts)) (fun E' hle hw => by
        refine ⟨qs.flatMap (·.2), φ', ?_, ?_, by rw [sortT_length]; exact k3, k4, k5⟩
        · rw [sortT_length, e, hw]
          refine ⟨?_, .inr ⟨g, cap, cur', rfl, Nat.zero_le _, hp4, hcap, hcm, by rw [hp5]; exact hcs, by rw [hpl]; exact hp6⟩⟩
          have hm : ts.length * 2 ≤ cap * 2 := Nat.mul_le_mul_right 2 hcap
          have hc2 : cur.size = cap * 2 := hcs
          have e4 : cur'.toList.length = cur'.size := rfl
          show (qs.flatMap (·.2)).length = ts.length * 2
          rw [← hp6, List.length_take, e4]
          omega
        · rw [← hqs]
          refine (DRp.dr (DRp.perm hp1.symm hps)).imp (fun ψ x c hψ h => DRep.move (fun b hb => ?_) h)
          rw [hw]
          exact hp3.block b (DRep.lt h b hb) (fun h => by
            injection h with h
            exact k5 g hbg (h ▸ hψ b hb)))
      exact ⟨.tup [], .tuple #[], [.drow t kTerm (sortT ts)], E', rfl, hK, by simp, m1, m3.congr (fun j => by
        simp only [numb]
        by_cases e0 : 0 = j
        · subst e0; rfl
        · simp only [lk_ne _ _ e0]), ⟨[], rfl, trivial⟩⟩
def c_sortT : Ctr Tryz.prog := ⟨156, ent Tryz.func156 rfl rfl, [true], sp_sortT, good_sortT, []⟩
@[go_sem] theorem c_sortT_f : c_sortT.f = 156 := rfl
@[go_sem] theorem c_sortT_ms : c_sortT.ms = [true] := rfl
@[go_sem] theorem c_sortT_sp : c_sortT.spec = sp_sortT := rfl
@[go_sem] theorem c_sortT_fz : c_sortT.fz = [] := rfl
attribute [go_sem] sp_sortT
end Go.Proofs.YthfmlelodmcgkaaGreat.V
end
