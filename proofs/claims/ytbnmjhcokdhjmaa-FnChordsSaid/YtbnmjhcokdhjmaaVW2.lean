/- Contracts: words by the reference and by the program. Conditions: told by each spec. Contracts: words, Gauss words. Conditions: told by each spec. Contracts: Gauss words are Gauss words. Conditions: told by each spec. -/
import Derived.Test.YtbnmjhcokdhjmaaVB
set_option linter.unusedVariables false
set_option linter.unusedSimpArgs false
namespace Go.Proofs.Ytbnmjhcokdhjmaa.V
open Go
set_option maxHeartbeats 4000000 in
set_option maxRecDepth 100000 in
theorem good_own : Good Try.prog 85 sp_clone := by
  refine good_ofF Try.func85 rfl _ rfl _ rfl (tab []) (fun X cs os0 K hok hos hK => ?_)
  clear hos; unfold sp_clone at hK
  split at hK
  case h_2 => exact hK.elim
  rename_i l
  refine ⟨by simp, by simp, ?_⟩
  simp only [go_sem] at hK hok
  simp (maxSteps := 4000000) only [go_sem, Try.f85, ↓brB_t, ↓brB_f, Nat.reduceAdd, Int.reduceLE, Int.reduceLT, Int.reduceNeg, decide_true, decide_false, Bool.and_self, Nat.succ_eq_add_one, Int.toNat_natCast, Nat.beq_refl, Bool.and_true, Bool.true_and, Bool.false_or, Bool.or_true, List.all_cons, List.all_nil, Nat.reduceMul, Nat.add_zero, Nat.zero_add, List.length_nil, List.length_cons, dite_true, List.nil_append, Nat.reduceBEq, reduceDIte, reduceIte, reduceCtorEq, Bool.or_false, Bool.true_or, Bool.and_false, Bool.false_and, Bool.not_true, Bool.not_false, Option.isSome_some, Option.isSome_none, Option.getD_some, List.getElem?_cons_zero, List.getElem?_cons_succ, eq_self, and_self, List.take_succ_cons, List.take_zero, List.drop_succ_cons, List.drop_zero]
  obtain ⟨hl, hK⟩ := hK
  refine ⟨by omega, retN [96] rfl ?_⟩
  exact hK
def c_own : Ctr Try.prog := ⟨85, ent Try.func85 rfl rfl, [], sp_clone, good_own, []⟩
@[go_sem] theorem c_own_f : c_own.f = 85 := rfl
@[go_sem] theorem c_own_ms : c_own.ms = [] := rfl
@[go_sem] theorem c_own_sp : c_own.spec = sp_clone := rfl
@[go_sem] theorem c_own_fz : c_own.fz = [] := rfl
attribute [go_sem] sp_clone
/-! ### each number twice -/
theorem count_s {l : List Int} {k : Nat} (h : k < l.length) (x : Int) : (l.take (k + 1)).count x = (l.take k).count x + (if l.getD k 0 = x then 1 else 0) := by
  rw [List.take_succ_eq_append_getElem h, List.count_append]
  simp [List.getD_eq_getElem?_getD, h, List.count_singleton, beq_iff_eq]
theorem count_lt {l : List Int} (k : Nat) (x : Int) : (l.take k).count x ≤ k := Nat.le_trans (List.count_le_length ..) (by simp; omega)
set_option maxHeartbeats 4000000 in
set_option maxRecDepth 100000 in
theorem good_l01Twice : Good Try.prog 88 sp_twice := by
  refine good_ofF Try.func88 rfl _ rfl _ rfl (tab []) (fun X cs os0 K hok hos hK => ?_)
  clear hos; unfold sp_twice at hK
  split at hK
  case h_2 => exact hK.elim
  rename_i l
  refine ⟨by simp, by simp, ?_⟩
  simp only [go_sem] at hK hok
  simp (maxSteps := 4000000) only [go_sem, Try.f88, ↓brB_t, ↓brB_f, Nat.reduceAdd, Int.reduceLE, Int.reduceLT, Int.reduceNeg, decide_true, decide_false, Bool.and_self, Nat.succ_eq_add_one, Int.toNat_natCast, Nat.beq_refl, Bool.and_true, Bool.true_and, Bool.false_or, Bool.or_true, List.all_cons, List.all_nil, Nat.reduceMul, Nat.add_zero, Nat.zero_add, List.length_nil, List.length_cons, dite_true, List.nil_append, Nat.reduceBEq, reduceDIte, reduceIte, reduceCtorEq, Bool.or_false, Bool.true_or, Bool.and_false, Bool.false_and, Bool.not_true, Bool.not_false, Option.isSome_some, Option.isSome_none, Option.getD_some, List.getElem?_cons_zero, List.getElem?_cons_succ, eq_self, and_self, List.take_succ_cons, List.take_zero, List.drop_succ_cons, List.drop_zero]
  obtain ⟨hl, hK⟩ := hK
  refine loop_okF (T := tab []) [0, 3] [] (fun i : Nat => ⟨31, [(0, ri l), (3, vi i)], []⟩)
    (fun i => i ≤ l.length ∧ (l.take i).all (fun x => l.count x == 2) = true) (fun i => l.length - i) 0 rfl rfl ⟨Nat.zero_le _, rfl⟩ (fun i hi => ?_)
  obtain ⟨hi, ht⟩ := hi
  simp only [go_sem, ↓brB_t, ↓brB_f, Nat.reduceAdd, Int.reduceLE, Int.reduceLT, Int.reduceNeg, decide_true, decide_false, Bool.and_self, Nat.succ_eq_add_one, Int.toNat_natCast, Nat.beq_refl, Bool.and_true, Bool.true_and, Bool.false_or, Bool.or_true, List.all_cons, List.all_nil, Nat.reduceMul, Nat.add_zero, Nat.zero_add, List.length_nil, List.length_cons, dite_true, List.nil_append, Nat.reduceBEq, reduceDIte, reduceIte, reduceCtorEq, Bool.or_false, Bool.true_or, Bool.and_false, Bool.false_and, Bool.not_true, Bool.not_false, Option.isSome_some, Option.isSome_none, Option.getD_some, List.getElem?_cons_zero, List.getElem?_cons_succ, eq_self, and_self, List.take_succ_cons, List.take_zero, List.drop_succ_cons, List.drop_zero]
  refine brB_intro (fun h1 => ?_) (fun h1 => ret0 ?_)
  · simp at h1
    refine loop_okF (T := tab []) [0, 3, 4, 5] [] (fun k : Nat => ⟨31, [(0, ri l), (3, vi i), (4, vi ((l.take k).count (l.getD i 0) : Nat)), (5, vi k)], []⟩)
      (fun k => k ≤ l.length) (fun k => l.length - k) 0 rfl rfl (Nat.zero_le _) (fun k hk => ?_)
    simp only [go_sem, ↓brB_t, ↓brB_f, Nat.reduceAdd, Int.reduceLE, Int.reduceLT, Int.reduceNeg, decide_true, decide_false, Bool.and_self, Nat.succ_eq_add_one, Int.toNat_natCast, Nat.beq_refl, Bool.and_true, Bool.true_and, Bool.false_or, Bool.or_true, List.all_cons, List.all_nil, Nat.reduceMul, Nat.add_zero, Nat.zero_add, List.length_nil, List.length_cons, dite_true, List.nil_append, Nat.reduceBEq, reduceDIte, reduceIte, reduceCtorEq, Bool.or_false, Bool.true_or, Bool.and_false, Bool.false_and, Bool.not_true, Bool.not_false, Option.isSome_some, Option.isSome_none, Option.getD_some, List.getElem?_cons_zero, List.getElem?_cons_succ, eq_self, and_self, List.take_succ_cons, List.take_zero, List.drop_succ_cons, List.drop_zero]
    refine brB_intro (fun h2 => ⟨by simp at h2; omega, by omega, by kernel_rfl, brB_intro (fun h3 => ?_) (fun h3 => ?_)⟩) (fun h2 => ?_)
    · simp only [decide_eq_true_eq] at h2 h3
      refine ⟨k + 1, [], by omega, by omega, rfl, ?_⟩
      have := count_lt (l := l) k (l.getD i 0)
      rw [w64_s (n := l.length) (by omega) (by omega), w64_id (by omega) (by omega), count_s (by omega), if_pos h3]; rfl
    · simp only [decide_eq_true_eq, decide_eq_false_iff_not] at h2 h3
      refine ⟨k + 1, [], by omega, by omega, rfl, ?_⟩
      rw [w64_s (n := l.length) (by omega) (by omega), count_s (by omega), if_neg h3]; rfl
    · have e : k = l.length := by simp at h2; omega
      subst e
      rw [List.take_length]
      have hm : l.getD i 0 ∈ l := by rw [List.getD_eq_getElem?_getD, List.getElem?_eq_getElem h1]; exact List.getElem_mem _
      refine brB_intro (fun h3 => ret0 ?_) (fun h3 => ?_)
      · have e : Go.Proofs.Ytbnmjhcokdhjmaa.K.twiceL l = false := by
          rw [Go.Proofs.Ytbnmjhcokdhjmaa.K.twiceL, ← Bool.not_eq_true, List.all_eq_true]
          intro h
          have := h _ hm
          simp at h3 this
          omega
        rw [e] at hK; exact hK
      · refine ⟨i + 1, [], ⟨by omega, ?_⟩, by omega, rfl, ?_⟩
        · rw [List.take_succ_eq_append_getElem h1, List.all_append, ht]
          simp at h3
          simp [List.getD_eq_getElem?_getD, h1] at h3
          simp; omega
        · rw [w64_s h1 (by omega)]; rfl
  · have e : Go.Proofs.Ytbnmjhcokdhjmaa.K.twiceL l = true := by
      simp at h1
      rwa [List.take_of_length_le h1] at ht
    rw [e] at hK; exact hK
def c_l01Twice : Ctr Try.prog := ⟨88, ent Try.func88 rfl rfl, [], sp_twice, good_l01Twice, []⟩
@[go_sem] theorem c_l01Twice_f : c_l01Twice.f = 88 := rfl
@[go_sem] theorem c_l01Twice_ms : c_l01Twice.ms = [] := rfl
@[go_sem] theorem c_l01Twice_sp : c_l01Twice.spec = sp_twice := rfl
@[go_sem] theorem c_l01Twice_fz : c_l01Twice.fz = [] := rfl
attribute [go_sem] sp_twice
/-! ### the normal word -/
def sp_l01Normal : List Cv → List Obj' → Tree
  | [.one (.ro (.int .i64) l)], [] => .need (l.length < 1099511627776) (.ret (ow 0) [rwi (Go.Proofs.Ytbnmjhcokdhjmaa.K.normalL l)])
  | _, _ => .fail
/-- What the reference's inner loop has found among the first k of the numbers met. -/
def atOf (met : List Int) (x : Int) (k : Nat) : Int := match (met.take k).idxOf? x with | some j => j | none => -1
theorem atOf_0 (met : List Int) (x : Int) : atOf met x 0 = -1 := by simp [atOf, List.idxOf?]
theorem idxOf?_take_s {met : List Int} (hn : met.Nodup) {x : Int} {k : Nat} (h : k < met.length) : (met.take (k + 1)).idxOf? x = if met.getD k 0 = x then some k else (met.take k).idxOf? x := by
  rw [List.take_succ_eq_append_getElem h]
  simp only [List.getD_eq_getElem?_getD, List.getElem?_eq_getElem h, Option.getD_some]
  by_cases e : met[k] = x
  · rw [if_pos e]
    have : x ∉ met.take k := fun hm => by
      obtain ⟨j, hj, e2⟩ := List.getElem_of_mem hm
      have hj' := hj
      rw [List.length_take] at hj'
      rw [List.getElem_take] at e2
      exact List.pairwise_iff_getElem.1 hn j k (by omega) h (by omega) (e2.trans e.symm)
    have h0 : (met.take k).idxOf? x = none := by simpa [List.idxOf?_eq_none_iff] using this
    subst e
    rw [Go.Proofs.Ytbnmjhcokdhjmaa.K.idxOf?_snoc _ _ _ h0, if_pos rfl]
    simp; omega
  · rw [if_neg e]
    simp only [List.idxOf?, List.findIdx?_append]
    cases List.findIdx? (fun z => z == x) (met.take k) with
    | some j => simp
    | none => simp [List.findIdx?_singleton, e]
/-- What has been met, what has been told, behind the first i numbers. -/
theorem normFrom_append (l m : List Int) : ∀ met, Go.Proofs.Ytbnmjhcokdhjmaa.K.normFrom met (l ++ m) = Go.Proofs.Ytbnmjhcokdhjmaa.K.normFrom met l ++ Go.Proofs.Ytbnmjhcokdhjmaa.K.normFrom (Go.Proofs.Ytbnmjhcokdhjmaa.K.metBy met l) m := by
  induction l with
  | nil => intro met; rfl
  | cons x r ih =>
    intro met
    rw [List.cons_append, Go.Proofs.Ytbnmjhcokdhjmaa.K.normFrom, Go.Proofs.Ytbnmjhcokdhjmaa.K.normFrom, Go.Proofs.Ytbnmjhcokdhjmaa.K.metBy]
    split <;> simp [ih]
theorem metBy_nodup (l : List Int) : ∀ met : List Int, met.Nodup → (Go.Proofs.Ytbnmjhcokdhjmaa.K.metBy met l).Nodup := by
  induction l with
  | nil => intro met h; exact h
  | cons x r ih =>
    intro met h
    rw [Go.Proofs.Ytbnmjhcokdhjmaa.K.metBy]
    split
    · exact ih _ h
    · rename_i hx
      refine ih _ (List.nodup_append.2 ⟨h, by simp, ?_⟩)
      intro a ha b hb
      simp at hb
      subst hb
      have : b ∉ met := by simpa [List.idxOf?_eq_none_iff] using hx
      exact fun e => this (e ▸ ha)
theorem metBy_length (l : List Int) : ∀ met : List Int, (Go.Proofs.Ytbnmjhcokdhjmaa.K.metBy met l).length ≤ met.length + l.length := by
  induction l with
  | nil => intro met; simp [Go.Proofs.Ytbnmjhcokdhjmaa.K.metBy]
  | cons x r ih =>
    intro met
    rw [Go.Proofs.Ytbnmjhcokdhjmaa.K.metBy]
    split
    · have := ih met; simp; omega
    · have := ih (met ++ [x]); simp at this ⊢; omega
abbrev metI (l : List Int) (i : Nat) : List Int := Go.Proofs.Ytbnmjhcokdhjmaa.K.metBy [] (l.take i)
abbrev norI (l : List Int) (i : Nat) : List Int := Go.Proofs.Ytbnmjhcokdhjmaa.K.normFrom [] (l.take i)
theorem metI_nodup (l : List Int) (i : Nat) : (metI l i).Nodup := metBy_nodup _ _ List.nodup_nil
theorem metI_len (l : List Int) (i : Nat) : (metI l i).length ≤ i := Nat.le_trans (metBy_length _ _) (by simp; omega)
theorem metI_s {l : List Int} {i : Nat} (h : i < l.length) : metI l (i + 1) = match (metI l i).idxOf? (l.getD i 0) with | some _ => metI l i | none => metI l i ++ [l.getD i 0] := by
  have e : l.getD i 0 = l[i] := by simp [List.getD_eq_getElem?_getD, h]
  rw [metI, List.take_succ_eq_append_getElem h, Go.Proofs.Ytbnmjhcokdhjmaa.K.metBy_append, Go.Proofs.Ytbnmjhcokdhjmaa.K.metBy, e]
  rfl
theorem norI_s {l : List Int} {i : Nat} (h : i < l.length) : norI l (i + 1) = norI l i ++ [match (metI l i).idxOf? (l.getD i 0) with | some j => (j : Int) | none => (metI l i).length] := by
  have e : l.getD i 0 = l[i] := by simp [List.getD_eq_getElem?_getD, h]
  rw [norI, List.take_succ_eq_append_getElem h, normFrom_append, e]
  simp only [Go.Proofs.Ytbnmjhcokdhjmaa.K.normFrom]
  split <;> rename_i hx <;> simp only [metI, norI, hx]
set_option maxHeartbeats 4000000 in
set_option maxRecDepth 100000 in
theorem good_l01Normal : Good Try.prog 89 sp_l01Normal := by
  refine good_ofF Try.func89 rfl _ rfl _ rfl (tab []) (fun X cs os0 K hok hos hK => ?_)
  clear hos; unfold sp_l01Normal at hK
  split at hK
  case h_2 => exact hK.elim
  rename_i l
  refine ⟨by simp, by simp, ?_⟩
  simp only [go_sem] at hK hok
  simp (maxSteps := 4000000) only [go_sem, Try.f89, ↓brB_t, ↓brB_f, Nat.reduceAdd, Int.reduceLE, Int.reduceLT, Int.reduceNeg, decide_true, decide_false, Bool.and_self, Nat.succ_eq_add_one, Int.toNat_natCast, Nat.beq_refl, Bool.and_true, Bool.true_and, Bool.false_or, Bool.or_true, List.all_cons, List.all_nil, Nat.reduceMul, Nat.add_zero, Nat.zero_add, List.length_nil, List.length_cons, dite_true, List.nil_append, Nat.reduceBEq, reduceDIte, reduceIte, reduceCtorEq, Bool.or_false, Bool.true_or, Bool.and_false, Bool.false_and, Bool.not_true, Bool.not_false, Option.isSome_some, Option.isSome_none, Option.getD_some, List.getElem?_cons_zero, List.getElem?_cons_succ, eq_self, and_self, List.take_succ_cons, List.take_zero, List.drop_succ_cons, List.drop_zero]
  obtain ⟨hl, hK⟩ := hK
  refine loop_okF (T := tab []) [0, 3, 4, 5] [(16, 144), (17, 160)] (fun i : Nat => ⟨48, [(0, ri l), (3, ow 16), (4, ow 17), (5, vi i)], [(16, rwi (metI l i)), (17, rwi (norI l i))]⟩)
    (fun i => i ≤ l.length) (fun i => l.length - i) 0 rfl rfl (Nat.zero_le _) (fun i hi => ?_)
  have hm := metI_len l i
  have hnl : (norI l i).length = i := by rw [norI, Go.Proofs.Ytbnmjhcokdhjmaa.K.normFrom_length, List.length_take]; omega
  simp only [go_sem, ↓brB_t, ↓brB_f, Nat.reduceAdd, Int.reduceLE, Int.reduceLT, Int.reduceNeg, decide_true, decide_false, Bool.and_self, Nat.succ_eq_add_one, Int.toNat_natCast, Nat.beq_refl, Bool.and_true, Bool.true_and, Bool.false_or, Bool.or_true, List.all_cons, List.all_nil, Nat.reduceMul, Nat.add_zero, Nat.zero_add, List.length_nil, List.length_cons, dite_true, List.nil_append, Nat.reduceBEq, reduceDIte, reduceIte, reduceCtorEq, Bool.or_false, Bool.true_or, Bool.and_false, Bool.false_and, Bool.not_true, Bool.not_false, Option.isSome_some, Option.isSome_none, Option.getD_some, List.getElem?_cons_zero, List.getElem?_cons_succ, eq_self, and_self, List.take_succ_cons, List.take_zero, List.drop_succ_cons, List.drop_zero]
  refine brB_intro (fun h1 => ?_) (fun h1 => retN [17] rfl ?_)
  · simp at h1
    refine loop_okF (T := tab []) [0, 3, 4, 5, 6, 7] [(16, 16), (17, 17)] (fun k : Nat => ⟨48, [(0, ri l), (3, ow 16), (4, ow 17), (5, vi i), (6, vi (atOf (metI l i) (l.getD i 0) k)), (7, vi k)], [(16, rwi (metI l i)), (17, rwi (norI l i))]⟩)
      (fun k => k ≤ (metI l i).length) (fun k => (metI l i).length - k) 0 rfl (by rw [atOf_0]; rfl) (Nat.zero_le _) (fun k hk => ?_)
    simp only [go_sem, ↓brB_t, ↓brB_f, Nat.reduceAdd, Int.reduceLE, Int.reduceLT, Int.reduceNeg, decide_true, decide_false, Bool.and_self, Nat.succ_eq_add_one, Int.toNat_natCast, Nat.beq_refl, Bool.and_true, Bool.true_and, Bool.false_or, Bool.or_true, List.all_cons, List.all_nil, Nat.reduceMul, Nat.add_zero, Nat.zero_add, List.length_nil, List.length_cons, dite_true, List.nil_append, Nat.reduceBEq, reduceDIte, reduceIte, reduceCtorEq, Bool.or_false, Bool.true_or, Bool.and_false, Bool.false_and, Bool.not_true, Bool.not_false, Option.isSome_some, Option.isSome_none, Option.getD_some, List.getElem?_cons_zero, List.getElem?_cons_succ, eq_self, and_self, List.take_succ_cons, List.take_zero, List.drop_succ_cons, List.drop_zero]
    refine brB_intro (fun h2 => ⟨by simp at h2; omega, by omega, by kernel_rfl, brB_intro (fun h3 => ?_) (fun h3 => ?_)⟩) (fun h2 => ?_)
    · simp only [decide_eq_true_eq] at h2 h3
      refine ⟨k + 1, [(16, 16), (17, 17)], by omega, by omega, rfl, ?_⟩
      have e : atOf (metI l i) (l.getD i 0) (k + 1) = k := by rw [atOf, idxOf?_take_s (metI_nodup l i) (by omega), if_pos h3]
      rw [w64_s (n := l.length) (by omega) (by omega), e]; rfl
    · simp only [decide_eq_true_eq, decide_eq_false_iff_not] at h2 h3
      refine ⟨k + 1, [(16, 16), (17, 17)], by omega, by omega, rfl, ?_⟩
      have e : atOf (metI l i) (l.getD i 0) (k + 1) = atOf (metI l i) (l.getD i 0) k := by rw [atOf, idxOf?_take_s (metI_nodup l i) (by omega), if_neg h3]; rfl
      rw [w64_s (n := l.length) (by omega) (by omega), e]; rfl
    · have e : k = (metI l i).length := by simp at h2; omega
      subst e
      have ea : atOf (metI l i) (l.getD i 0) (metI l i).length = match (metI l i).idxOf? (l.getD i 0) with | some j => (j : Int) | none => -1 := by rw [atOf, List.take_length]
      rw [ea]
      have es := metI_s h1
      have en := norI_s h1
      cases hx : (metI l i).idxOf? (l.getD i 0) with
      | some j =>
        simp only [hx] at es en ⊢
        refine brB_intro (fun h3 => by simp at h3; omega) (fun h3 => ⟨by omega, i + 1, [(16, 16), (17, 752)], by omega, by omega, rfl, ?_⟩)
        rw [w64_s h1 (by omega), es, en]; rfl
      | none =>
        simp only [hx] at es en ⊢
        refine brB_intro (fun h3 => ⟨⟨by omega, by omega⟩, by omega, by omega, i + 1, [(16, 688), (17, 752)], by omega, by omega, rfl, ?_⟩) (fun h3 => by simp at h3)
        rw [w64_s h1 (by omega), es, en]; rfl
  · have e : i = l.length := by simp at h1; omega
    subst e
    have e : norI l l.length = Go.Proofs.Ytbnmjhcokdhjmaa.K.normalL l := by rw [norI, List.take_length]; rfl
    rw [e]; exact hK
def c_l01Normal : Ctr Try.prog := ⟨89, ent Try.func89 rfl rfl, [], sp_l01Normal, good_l01Normal, []⟩
@[go_sem] theorem c_l01Normal_f : c_l01Normal.f = 89 := rfl
@[go_sem] theorem c_l01Normal_ms : c_l01Normal.ms = [] := rfl
@[go_sem] theorem c_l01Normal_sp : c_l01Normal.spec = sp_l01Normal := rfl
@[go_sem] theorem c_l01Normal_fz : c_l01Normal.fz = [] := rfl
attribute [go_sem] sp_l01Normal
end Go.Proofs.Ytbnmjhcokdhjmaa.V

set_option linter.unusedVariables false
set_option linter.unusedSimpArgs false
namespace Go.Proofs.Ytbnmjhcokdhjmaa.V
open Go
/-- Is a list a word? -/
def isW (l : List Int) : Bool := decide (l.length ≤ 12) && (Go.Proofs.Ytbnmjhcokdhjmaa.K.twiceL l && decide (Go.Proofs.Ytbnmjhcokdhjmaa.K.normalL l = l))
def sp_isW : List Cv → List Obj' → Tree
  | [.one (.ro (.int .i64) l)], [] => .ret (vb (isW l)) []
  | _, _ => .fail
set_option maxHeartbeats 4000000 in
set_option maxRecDepth 100000 in
theorem good_l01Is : Good Try.prog 69 sp_isW := by
  refine good_ofF Try.func69 rfl _ rfl _ rfl (tab [c_l01Twice, c_l01Normal, c_l01Same]) (fun X cs os0 K hok hos hK => ?_)
  clear hos; unfold sp_isW at hK
  split at hK
  case h_2 => exact hK.elim
  rename_i l
  refine ⟨by simp, by simp, ?_⟩
  simp only [go_sem] at hK hok
  simp (maxSteps := 4000000) only [go_sem, Try.f69, ↓brB_t, ↓brB_f, Nat.reduceAdd, Int.reduceLE, Int.reduceLT, Int.reduceNeg, decide_true, decide_false, Bool.and_self, Nat.succ_eq_add_one, Int.toNat_natCast, Nat.beq_refl, Bool.and_true, Bool.true_and, Bool.false_or, Bool.or_true, List.all_cons, List.all_nil, Nat.reduceMul, Nat.add_zero, Nat.zero_add, List.length_nil, List.length_cons, dite_true, List.nil_append, Nat.reduceBEq, reduceDIte, reduceIte, reduceCtorEq, Bool.or_false, Bool.true_or, Bool.and_false, Bool.false_and, Bool.not_true, Bool.not_false, Option.isSome_some, Option.isSome_none, Option.getD_some, List.getElem?_cons_zero, List.getElem?_cons_succ, eq_self, and_self, List.take_succ_cons, List.take_zero, List.drop_succ_cons, List.drop_zero]
  refine brB_intro (fun h => ?_) (fun h => ret0 (by simp [isW] at hK; simpa [go_sem, isW, h, show ¬ l.length ≤ 12 by simp at h; omega] using hK))
  have h' : l.length ≤ 12 := by simp at h; omega
  refine ⟨by omega, brB_intro (fun h2 => ⟨by omega, ret0 (by simpa [go_sem, isW, h', h2] using hK)⟩) (fun h2 => ret0 (by simpa [go_sem, isW, h', h2] using hK))⟩
def c_l01Is : Ctr Try.prog := ⟨69, ent Try.func69 rfl rfl, [], sp_isW, good_l01Is, []⟩
@[go_sem] theorem c_l01Is_f : c_l01Is.f = 69 := rfl
@[go_sem] theorem c_l01Is_ms : c_l01Is.ms = [] := rfl
@[go_sem] theorem c_l01Is_sp : c_l01Is.spec = sp_isW := rfl
@[go_sem] theorem c_l01Is_fz : c_l01Is.fz = [] := rfl
attribute [go_sem] sp_isW
set_option maxHeartbeats 4000000 in
set_option maxRecDepth 100000 in
theorem good_IsWord : Good Try.prog 56 sp_isW := by
  refine good_ofF Try.func56 rfl _ rfl _ rfl (tab [c_twice, c_normal, c_equal]) (fun X cs os0 K hok hos hK => ?_)
  clear hos; unfold sp_isW at hK
  split at hK
  case h_2 => exact hK.elim
  rename_i l
  refine ⟨by simp, by simp, ?_⟩
  simp only [go_sem] at hK hok
  simp (maxSteps := 4000000) only [go_sem, Try.f56, ↓brB_t, ↓brB_f, Nat.reduceAdd, Int.reduceLE, Int.reduceLT, Int.reduceNeg, decide_true, decide_false, Bool.and_self, Nat.succ_eq_add_one, Int.toNat_natCast, Nat.beq_refl, Bool.and_true, Bool.true_and, Bool.false_or, Bool.or_true, List.all_cons, List.all_nil, Nat.reduceMul, Nat.add_zero, Nat.zero_add, List.length_nil, List.length_cons, dite_true, List.nil_append, Nat.reduceBEq, reduceDIte, reduceIte, reduceCtorEq, Bool.or_false, Bool.true_or, Bool.and_false, Bool.false_and, Bool.not_true, Bool.not_false, Option.isSome_some, Option.isSome_none, Option.getD_some, List.getElem?_cons_zero, List.getElem?_cons_succ, eq_self, and_self, List.take_succ_cons, List.take_zero, List.drop_succ_cons, List.drop_zero]
  refine brB_intro (fun h => ?_) (fun h => ret0 (by simp [isW] at hK; simpa [go_sem, isW, h, show ¬ l.length ≤ 12 by simp at h; omega] using hK))
  have h' : l.length ≤ 12 := by simp at h; omega
  refine ⟨by omega, brB_intro (fun h2 => ⟨by omega, ret0 (by simpa [go_sem, isW, h', h2] using hK)⟩) (fun h2 => ret0 (by simpa [go_sem, isW, h', h2] using hK))⟩
def c_IsWord : Ctr Try.prog := ⟨56, ent Try.func56 rfl rfl, [], sp_isW, good_IsWord, []⟩
@[go_sem] theorem c_IsWord_f : c_IsWord.f = 56 := rfl
@[go_sem] theorem c_IsWord_ms : c_IsWord.ms = [] := rfl
@[go_sem] theorem c_IsWord_sp : c_IsWord.spec = sp_isW := rfl
@[go_sem] theorem c_IsWord_fz : c_IsWord.fz = [] := rfl
attribute [go_sem] sp_isW
end Go.Proofs.Ytbnmjhcokdhjmaa.V

set_option linter.unusedVariables false
set_option linter.unusedSimpArgs false
namespace Go.Proofs.Ytbnmjhcokdhjmaa.V
open Go
def sgn (n : Int) : Bool := decide (n = 1 ∨ n = -1)
def isG (w hs ss : List Int) : Bool := isW w && (decide (hs.length = w.length / 2) && (decide (ss.length = w.length / 2) && (hs.all (inB · 0 1) && ss.all sgn)))
def sp_isG : List Cv → List Obj' → Tree
  | [.agg [.ro (.int .i64) w, .ro (.int .i64) hs, .ro (.int .i64) ss]], [] => .ret (vb (isG w hs ss)) []
  | _, _ => .fail
/-! ### lists and tests -/
abbrev Tst := HT [Kn.int .i64] → Option Kn.bool.T
def tst (f : Tst) (x : Int) : Bool := (f (x, ())).getD false
def idxP (p : Int → Bool) (l : List Int) : Int := match l.findIdx? p with | some j => (j : Int) | none => -1
def sp_indexF : List Cv → List Obj' → Tree
  | [.one (.ro (.int .i64) l), .one (.pf [.int .i64] .bool f)], [] => .need (∀ x ∈ (l : List Int), (f (x, ())).isSome = true) (.ret (vi (idxP (tst f) l)) [])
  | _, _ => .fail
def sp_contains : List Cv → List Obj' → Tree
  | [.one (.ro (.int .i64) l), .one (.pf [.int .i64] .bool f)], [] => .need (∀ x ∈ (l : List Int), (f (x, ())).isSome = true) (.ret (vb ((l : List Int).any (tst f))) [])
  | _, _ => .fail
theorem getD_mem {l : List Int} {i : Nat} (h : i < l.length) : l.getD i 0 ∈ l := by rw [List.getD_eq_getElem?_getD, List.getElem?_eq_getElem h]; exact List.getElem_mem _
theorem getD_eq {l : List Int} {i : Nat} (h : i < l.length) : l.getD i 0 = l[i] := by rw [List.getD_eq_getElem?_getD, List.getElem?_eq_getElem h]; rfl
set_option maxHeartbeats 4000000 in
set_option maxRecDepth 100000 in
theorem good_indexF : Good Try.prog 126 sp_indexF := by
  refine good_ofF Try.func126 rfl _ rfl _ rfl (tab []) (fun X cs os0 K hok hos hK => ?_)
  clear hos; unfold sp_indexF at hK
  split at hK
  case h_2 => exact hK.elim
  rename_i l f
  refine ⟨by simp, by simp, ?_⟩
  simp only [go_sem] at hK hok
  simp (maxSteps := 4000000) only [go_sem, Try.f126, ↓brB_t, ↓brB_f, Nat.reduceAdd, Int.reduceLE, Int.reduceLT, Int.reduceNeg, decide_true, decide_false, Bool.and_self, Nat.succ_eq_add_one, Int.toNat_natCast, Nat.beq_refl, Bool.and_true, Bool.true_and, Bool.false_or, Bool.or_true, List.all_cons, List.all_nil, Nat.reduceMul, Nat.add_zero, Nat.zero_add, List.length_nil, List.length_cons, dite_true, List.nil_append, Nat.reduceBEq, reduceDIte, reduceIte, reduceCtorEq, Bool.or_false, Bool.true_or, Bool.and_false, Bool.false_and, Bool.not_true, Bool.not_false, Option.isSome_some, Option.isSome_none, Option.getD_some, List.getElem?_cons_zero, List.getElem?_cons_succ, eq_self, and_self, List.take_succ_cons, List.take_zero, List.drop_succ_cons, List.drop_zero]
  obtain ⟨hf, hK⟩ := hK
  have hl := len_i hok.1.1
  refine loop_okF (T := tab []) [0, 1, 7, 8] [] (fun i : Nat => ⟨19, [(0, ri l), (1, .val (.one (.pf [.int .i64] .bool f))), (7, vi l.length), (8, vi i)], []⟩)
    (fun i => i ≤ l.length ∧ (l.take i).all (fun x => !tst f x) = true) (fun i => l.length - i) 0 rfl rfl ⟨Nat.zero_le _, rfl⟩ (fun i hi => ?_)
  obtain ⟨hi, ht⟩ := hi
  simp only [go_sem, ↓brB_t, ↓brB_f, Nat.reduceAdd, Int.reduceLE, Int.reduceLT, Int.reduceNeg, decide_true, decide_false, Bool.and_self, Nat.succ_eq_add_one, Int.toNat_natCast, Nat.beq_refl, Bool.and_true, Bool.true_and, Bool.false_or, Bool.or_true, List.all_cons, List.all_nil, Nat.reduceMul, Nat.add_zero, Nat.zero_add, List.length_nil, List.length_cons, dite_true, List.nil_append, Nat.reduceBEq, reduceDIte, reduceIte, reduceCtorEq, Bool.or_false, Bool.true_or, Bool.and_false, Bool.false_and, Bool.not_true, Bool.not_false, Option.isSome_some, Option.isSome_none, Option.getD_some, List.getElem?_cons_zero, List.getElem?_cons_succ, eq_self, and_self, List.take_succ_cons, List.take_zero, List.drop_succ_cons, List.drop_zero]
  refine brB_intro (fun h1 => ?_) (fun h1 => ret0 ?_)
  · simp at h1
    refine ⟨⟨by omega, by omega⟩, hf _ (getD_mem h1), brB_intro (fun h2 => ret0 ?_) (fun h2 => ⟨i + 1, [], ⟨by omega, ?_⟩, by omega, rfl, ?_⟩)⟩
    · have e : idxP (tst f) l = i := by
        have : List.findIdx? (tst f) l = some i := by
          rw [List.findIdx?_eq_some_iff_getElem]
          refine ⟨h1, by rw [← getD_eq h1]; exact h2, fun j hj => ?_⟩
          have := List.all_eq_true.1 ht l[j] (by rw [List.mem_take_iff_getElem]; exact ⟨j, by omega, rfl⟩)
          simpa using this
        rw [idxP, this]
      rw [e] at hK; exact hK
    · rw [List.take_succ_eq_append_getElem h1, List.all_append, ht, ← getD_eq h1]
      simp only [List.all_cons, List.all_nil, Bool.and_true, Bool.true_and, Bool.not_eq_true']
      exact h2
    · rw [w64_s h1 hl]; rfl
  · have e : idxP (tst f) l = -1 := by
      have : List.findIdx? (tst f) l = none := by
        rw [List.findIdx?_eq_none_iff]
        intro x hx
        simp at h1
        rw [List.take_of_length_le h1] at ht
        simpa using List.all_eq_true.1 ht x hx
      rw [idxP, this]
    rw [e] at hK; exact hK
def c_indexF : Ctr Try.prog := ⟨126, ent Try.func126 rfl rfl, [], sp_indexF, good_indexF, []⟩
@[go_sem] theorem c_indexF_f : c_indexF.f = 126 := rfl
@[go_sem] theorem c_indexF_ms : c_indexF.ms = [] := rfl
@[go_sem] theorem c_indexF_sp : c_indexF.spec = sp_indexF := rfl
@[go_sem] theorem c_indexF_fz : c_indexF.fz = [] := rfl
attribute [go_sem] sp_indexF
theorem any_not {l : List Int} {p : Int → Bool} : (l.any fun x => !p x) = !l.all p := by rw [List.all_eq_not_any_not, Bool.not_not]
theorem nb {b : Bool} (h : (!b) = true) : b = false := by simpa using h
theorem nb' {b : Bool} (h : (!b) = false) : b = true := by simpa using h
end Go.Proofs.Ytbnmjhcokdhjmaa.V
