/- Contracts: weights of all kinds, the law of WeightOfKind. Conditions: told by each spec. -/
import Derived.Test.YtokakggilajjlaaVE2
import Derived.Test.YtokakggilajjlaaVD3
set_option linter.unusedVariables false
set_option linter.unusedSimpArgs false
namespace Go.Proofs.Ytokakggilajjlaa.V
open Go
/-- The weight of a kind. -/
def kindL (w : List Int) (k : Int) : List Int :=
  if k = 0 then powL (circ w no) else if k = 1 then trimL (soL w (2 ^ (w.length / 2))) else if k = 2 then trimL (frW w (2 ^ (w.length / 2))) else if circ w no = 1 then [1] else []
theorem kind_0 (w : List Int) : kindL w 0 = powL (circ w no) := rfl
theorem kind_1 (w : List Int) : kindL w 1 = trimL (soL w (2 ^ (w.length / 2))) := rfl
theorem kind_2 (w : List Int) : kindL w 2 = trimL (frW w (2 ^ (w.length / 2))) := rfl
theorem kind_3 {w : List Int} {k : Int} (h0 : ¬ k = 0) (h1 : ¬ k = 1) (h2 : ¬ k = 2) : kindL w k = if circ w no = 1 then [1] else [] := by
  unfold kindL
  rw [if_neg h0, if_neg h1, if_neg h2]
theorem circ_13 {w : List Int} (h : isW w = true) (tw : Nat → Bool) : circ w tw ≤ 7 := by
  obtain ⟨n, hn⟩ := Go.Proofs.Ytokakggilajjlaa.L.word_of w h
  have := circ_le hn tw
  have := hn.len
  have := (Go.Proofs.Ytokakggilajjlaa.L.word_range h).1
  omega
theorem kindL_len {w : List Int} (h : isW w = true) (k : Int) : (kindL w k).length ≤ 8 := by
  have hc := circ_13 h no
  have hl := (Go.Proofs.Ytokakggilajjlaa.L.word_range h).1
  unfold kindL
  split
  · rw [powL, List.length_append, List.length_replicate]
    show circ w no + 1 ≤ 8
    omega
  · split
    · have := trim_len (soL w (2 ^ (w.length / 2)))
      rw [soL, acc_len] at this
      rw [soL]; omega
    · split
      · have := trim_len (frW w (2 ^ (w.length / 2)))
        rw [frW, acc_len] at this
        rw [frW]; omega
      · split
        · show 1 ≤ 8; omega
        · show 0 ≤ 8; omega
def sp_conway : List Cv → List Obj' → Tree
  | [.one (.ro (.int .i64) w)], [] => .need (isW w = true) (.ret (vi (if circ w no = 1 then 1 else 0)) [])
  | _, _ => .fail
set_option maxHeartbeats 4000000 in
set_option maxRecDepth 100000 in
theorem good_conway : Good Try.prog 154 sp_conway := by
  refine good_ofF Try.func154 rfl _ rfl _ rfl (tab [c_borders]) (fun X cs os0 K hok hos hK => ?_)
  clear hos; unfold sp_conway at hK
  split at hK
  case h_2 => exact hK.elim
  rename_i w
  refine ⟨by simp, by simp, ?_⟩
  simp only [go_sem] at hK hok
  simp (maxSteps := 4000000) only [go_sem, Try.f154, ↓brB_t, ↓brB_f, Nat.reduceAdd, Int.reduceLE, Int.reduceLT, Int.reduceNeg, decide_true, decide_false, Bool.and_self, Nat.succ_eq_add_one, Int.toNat_natCast, Nat.beq_refl, Bool.and_true, Bool.true_and, Bool.false_or, Bool.or_true, List.all_cons, List.all_nil, Nat.reduceMul, Nat.add_zero, Nat.zero_add, List.length_nil, List.length_cons, dite_true, List.nil_append, Nat.reduceBEq, reduceDIte, reduceIte, reduceCtorEq, Bool.or_false, Bool.true_or, Bool.and_false, Bool.false_and, Bool.not_true, Bool.not_false, Option.isSome_some, Option.isSome_none, Option.getD_some, List.getElem?_cons_zero, List.getElem?_cons_succ, eq_self, and_self, List.take_succ_cons, List.take_zero, List.drop_succ_cons, List.drop_zero]
  obtain ⟨hw, hK⟩ := hK
  clear hok
  refine ⟨hw, brB_intro (fun h => ret0 ?_) (fun h => ret0 ?_)⟩
  · have h := of_decide_eq_true h
    rw [if_pos (by omega)] at hK; exact hK
  · have h := of_decide_eq_false h
    rw [if_neg (by omega)] at hK; exact hK
def c_conway : Ctr Try.prog := ⟨154, ent Try.func154 rfl rfl, [], sp_conway, good_conway⟩
@[go_sem] theorem c_conway_f : c_conway.f = 154 := rfl
@[go_sem] theorem c_conway_ms : c_conway.ms = [] := rfl
@[go_sem] theorem c_conway_sp : c_conway.spec = sp_conway := rfl
attribute [go_sem] sp_conway
def sp_weight : List Cv → List Obj' → Tree
  | [.one (.ro (.int .i64) w), .one (.v (.int .i64 k))], [] => .need (isW w = true ∧ inB k 0 3 = true) (.ret (ow 0) [rwi (kindL w k)])
  | _, _ => .fail
theorem trim_01 (c : Prop) [Decidable c] : trimL [if c then (1 : Int) else 0] = if c then [1] else [] := by
  split <;> rfl
set_option maxHeartbeats 4000000 in
set_option maxRecDepth 100000 in
theorem good_weight : Good Try.prog 99 sp_weight := by
  refine good_ofF Try.func99 rfl _ rfl _ rfl (tab [c_borders, c_twistSum, c_trimmed, c_free, c_conway] [p_we1]) (fun X cs os0 K hok hos hK => ?_)
  clear hos; unfold sp_weight at hK
  split at hK
  case h_2 => exact hK.elim
  rename_i w k
  refine ⟨by simp, by simp, ?_⟩
  simp only [go_sem] at hK hok
  simp (maxSteps := 4000000) only [go_sem, Try.f99, ↓brB_t, ↓brB_f, Nat.reduceAdd, Int.reduceLE, Int.reduceLT, Int.reduceNeg, decide_true, decide_false, Bool.and_self, Nat.succ_eq_add_one, Int.toNat_natCast, Nat.beq_refl, Bool.and_true, Bool.true_and, Bool.false_or, Bool.or_true, List.all_cons, List.all_nil, Nat.reduceMul, Nat.add_zero, Nat.zero_add, List.length_nil, List.length_cons, dite_true, List.nil_append, Nat.reduceBEq, reduceDIte, reduceIte, reduceCtorEq, Bool.or_false, Bool.true_or, Bool.and_false, Bool.false_and, Bool.not_true, Bool.not_false, Option.isSome_some, Option.isSome_none, Option.getD_some, List.getElem?_cons_zero, List.getElem?_cons_succ, eq_self, and_self, List.take_succ_cons, List.take_zero, List.drop_succ_cons, List.drop_zero]
  obtain ⟨⟨hw, hk⟩, hK⟩ := hK
  clear hok
  have hc := circ_13 hw no
  refine brB_intro (fun h0 => ?_) (fun h0 => brB_intro (fun h1 => ?_) (fun h1 => brB_intro (fun h2 => ?_) (fun h2 => ?_)))
  · have h0 := of_decide_eq_true h0
    subst h0
    rw [kind_0] at hK
    rw [show w64 (((circ w no : Nat) : Int) + 1) = ((circ w no + 1 : Nat) : Int) from wN (by omega) (by omega), Int.toNat_natCast, powL_set, List.length_replicate]
    exact ⟨hw, ⟨by omega, by omega, trivial⟩, hw, ⟨by omega, by omega⟩, retN [208] rfl hK⟩
  · have h1 := of_decide_eq_true h1
    subst h1
    rw [kind_1] at hK
    refine ⟨⟨hw, weF_ok⟩, brB_intro (fun h => ?_) (fun h => ?_)⟩
    · rw [of_decide_eq_true h] at hK
      exact retN [352] rfl hK
    · exact retN [368] rfl hK
  · have h2 := of_decide_eq_true h2
    subst h2
    rw [kind_2] at hK
    exact ⟨hw, retN [432] rfl hK⟩
  · rw [kind_3 (of_decide_eq_false h0) (of_decide_eq_false h1) (of_decide_eq_false h2), ← trim_01] at hK
    refine ⟨hw, brB_intro (fun h => ?_) (fun h => ?_)⟩
    · rw [of_decide_eq_true h] at hK
      exact retN [480] rfl hK
    · exact retN [496] rfl hK
def c_weight : Ctr Try.prog := ⟨99, ent Try.func99 rfl rfl, [], sp_weight, good_weight⟩
@[go_sem] theorem c_weight_f : c_weight.f = 99 := rfl
@[go_sem] theorem c_weight_ms : c_weight.ms = [] := rfl
@[go_sem] theorem c_weight_sp : c_weight.spec = sp_weight := rfl
attribute [go_sem] sp_weight
theorem good_pick {P : Program} {f : FuncId} {sp : List Cv → List Obj' → Tree} (h : ∀ cs os (K : Rv → List Obj' → Prop), (sp cs os).run K → ∃ sp', Good P f sp' ∧ (sp' cs os).run K) : Good P f sp := by
  intro E0 cs os0 vs K hF hD h16 hO hdis hnof ha hK
  obtain ⟨sp', hg, hr⟩ := h cs os0 K hK
  exact hg E0 cs os0 vs K hF hD h16 hO hdis hnof ha hr
def sp_l05W0 : List Cv → List Obj' → Tree
  | [.one (.ro (.int .i64) w), .one (.v (.int .i64 k))], [] => .need (isW w = true ∧ ¬ k = 1 ∧ ¬ k = 2) (.ret (ow 0) [rwi (kindL w k)])
  | _, _ => .fail
set_option maxHeartbeats 4000000 in
set_option maxRecDepth 100000 in
theorem good_l05W0 : Good Try.prog 148 sp_l05W0 := by
  refine good_ofF Try.func148 rfl _ rfl _ rfl (tab [c_l05Power, c_circlesS, c_l05None]) (fun X cs os0 K hok hos hK => ?_)
  clear hos; unfold sp_l05W0 at hK
  split at hK
  case h_2 => exact hK.elim
  rename_i w k
  refine ⟨by simp, by simp, ?_⟩
  simp only [go_sem] at hK hok
  simp (maxSteps := 4000000) only [go_sem, Try.f148, ↓brB_t, ↓brB_f, Nat.reduceAdd, Int.reduceLE, Int.reduceLT, Int.reduceNeg, decide_true, decide_false, Bool.and_self, Nat.succ_eq_add_one, Int.toNat_natCast, Nat.beq_refl, Bool.and_true, Bool.true_and, Bool.false_or, Bool.or_true, List.all_cons, List.all_nil, Nat.reduceMul, Nat.add_zero, Nat.zero_add, List.length_nil, List.length_cons, dite_true, List.nil_append, Nat.reduceBEq, reduceDIte, reduceIte, reduceCtorEq, Bool.or_false, Bool.true_or, Bool.and_false, Bool.false_and, Bool.not_true, Bool.not_false, Option.isSome_some, Option.isSome_none, Option.getD_some, List.getElem?_cons_zero, List.getElem?_cons_succ, eq_self, and_self, List.take_succ_cons, List.take_zero, List.drop_succ_cons, List.drop_zero]
  obtain ⟨⟨hw, h1, h2⟩, hK⟩ := hK
  clear hok
  have hc := circ_13 hw no
  have w1 := (Go.Proofs.Ytokakggilajjlaa.L.word_range hw).1
  have en : (fun i => (List.replicate (w.length / 2) false).getD i false) = no := none_get _
  rw [en]
  refine ⟨by decide, trivial, brB_intro (fun h0 => ?_) (fun h0 => brB_intro (fun h => absurd (of_decide_eq_true h) h1) (fun _ => brB_intro (fun h => absurd (of_decide_eq_true h) h2) (fun _ => ?_)))⟩
  · have h0 := of_decide_eq_true h0
    subst h0
    rw [kind_0] at hK
    exact ⟨by omega, ⟨hw, by rw [List.length_replicate]; omega⟩, ⟨⟨by omega, by omega⟩, trivial⟩, retN [528] rfl hK⟩
  · have h0 := of_decide_eq_false h0
    rw [kind_3 h0 h1 h2] at hK
    refine ⟨by omega, ⟨hw, by rw [List.length_replicate]; omega⟩, brB_intro (fun h => ?_) (fun h => ?_)⟩
    · have h := of_decide_eq_true h
      rw [if_pos (by omega)] at hK
      exact retN [416] rfl hK
    · have h := of_decide_eq_false h
      rw [if_neg (by omega)] at hK
      exact retN [256] rfl hK
theorem good_l05W : Good Try.prog 148 sp_weight := good_pick fun cs os K h => by
  unfold sp_weight at h
  split at h
  · rename_i w k
    obtain ⟨⟨hw, hk⟩, hK⟩ := h
    by_cases h1 : k = 1
    · subst h1
      exact ⟨_, good_l05W1, ⟨hw, rfl⟩, hK⟩
    · by_cases h2 : k = 2
      · subst h2
        exact ⟨_, good_l05W2, ⟨hw, rfl⟩, hK⟩
      · exact ⟨_, good_l05W0, ⟨hw, h1, h2⟩, hK⟩
  · exact h.elim
def c_l05W : Ctr Try.prog := ⟨148, ent Try.func148 rfl rfl, [], sp_weight, good_l05W⟩
@[go_sem] theorem c_l05W_f : c_l05W.f = 148 := rfl
@[go_sem] theorem c_l05W_ms : c_l05W.ms = [] := rfl
@[go_sem] theorem c_l05W_sp : c_l05W.spec = sp_weight := rfl
attribute [go_sem] sp_weight
/-! ### WeightOfKind -/
end Go.Proofs.Ytokakggilajjlaa.V
