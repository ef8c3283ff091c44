/- Contracts: divisions of words, at each depth of closures. Conditions: told by each spec. Printed by a program of the author's. -/
import Derived.Test.YtihfncjpfgdhoaaVZd
set_option linter.unusedVariables false
set_option linter.unusedSimpArgs false
namespace Go.Proofs.Ytihfncjpfgdhoaa.V
open Go
def sp_D0 : List Cv → List Obj' → Tree
  | [.one (.ro (.int .i64) a), .one (.ro (.int .i64) b), .one (.ptr 0 0)], [.box 76 [.fn 84 [1]], .box 2 [.v (.int .i64 m)]] => .need (0 ≤ m ∧ m ≤ 200 ∧ a.length ≤ 24 ∧ (a.length = 0 ∨ (isW b = true ∧ b.length ≤ 6))) (.ret (.tup []) [.box 76 [.fn 84 [1]], .box 2 [.v (.int .i64 (m + (if a.length = 0 then 0 else cntD (b.length / 2))))]])
  | _, _ => .fail
set_option maxHeartbeats 4000000 in
set_option maxRecDepth 100000 in
theorem good_D0 : Good Try.prog 107 sp_D0 := by
  refine good_ofF Try.func107 rfl _ rfl _ rfl (tab [c_div1]) (fun X cs os0 K hok hos hK => ?_)
  unfold sp_D0 at hK
  split at hK
  case h_2 => exact hK.elim
  rename_i a b m
  refine ⟨by simp, by simp, ?_⟩
  simp only [go_sem] at hK hok hos
  simp (maxSteps := 4000000) only [go_sem, Try.f107, ↓brB_t, ↓brB_f, Nat.reduceAdd, Int.reduceLE, Int.reduceLT, Int.reduceNeg, decide_true, decide_false, Bool.and_self, Nat.succ_eq_add_one, Int.toNat_natCast, Nat.beq_refl, Bool.and_true, Bool.true_and, Bool.false_or, Bool.or_true, List.all_cons, List.all_nil, Nat.reduceMul, Nat.add_zero, Nat.zero_add, List.length_nil, List.length_cons, dite_true, List.nil_append, Nat.reduceBEq, reduceDIte, reduceIte, reduceCtorEq, Bool.or_false, Bool.true_or, Bool.and_false, Bool.false_and, Bool.not_true, Bool.not_false, Option.isSome_some, Option.isSome_none, Option.getD_some, List.getElem?_cons_zero, List.getElem?_cons_succ, eq_self, and_self, List.take_succ_cons, List.take_zero, List.drop_succ_cons, List.drop_zero]
  obtain ⟨⟨h0, hm, ha, hb⟩, hK⟩ := hK
  clear hok hos
  refine brB_intro (fun h1 => ?_) (fun h1 => ?_)
  · have h1 := of_decide_eq_true h1
    rw [if_pos (by omega), Int.add_zero] at hK
    exact retN [0, 1] rfl hK
  · have h1 := of_decide_eq_false h1
    rw [if_neg (by omega)] at hK
    have hb := hb.resolve_left (by omega)
    exact ⟨⟨hb.1, hb.2, by omega, by omega, by omega⟩, retN [0, 1] rfl hK⟩
def c_D0 : Ctr Try.prog := ⟨107, ent Try.func107 rfl rfl, [false, false, true], sp_D0, good_D0, [true, true, false]⟩
@[go_sem] theorem c_D0_f : c_D0.f = 107 := rfl
@[go_sem] theorem c_D0_ms : c_D0.ms = [false, false, true] := rfl
@[go_sem] theorem c_D0_sp : c_D0.spec = sp_D0 := rfl
@[go_sem] theorem c_D0_fz : c_D0.fz = [true, true, false] := rfl
attribute [go_sem] sp_D0
def sp_split0 : List Cv → List Obj' → Tree
  | [.one (.ro (.int .i64) w), .one (.fn 107 [0])], [.box 76 [.fn 84 [1]], .box 2 [.v (.int .i64 m)]] => .need (isW w = true ∧ w.length ≤ 8 ∧ ¬ w.length = 0 ∧ 0 ≤ m ∧ m ≤ 100) (.ret (.tup []) [.box 76 [.fn 84 [1]], .box 2 [.v (.int .i64 (m + cntD (w.length / 2)))]])
  | _, _ => .fail
set_option maxHeartbeats 4000000 in
set_option maxRecDepth 100000 in
theorem good_split0 : Good Try.prog 106 sp_split0 := by
  refine good_ofF Try.func106 rfl _ rfl _ rfl (tab [c_chords, c_wordOf, c_D0] [] [p_s1, p_s2]) (fun X cs os0 K hok hos hK => ?_)
  unfold sp_split0 at hK
  split at hK
  case h_2 => exact hK.elim
  rename_i w m
  refine ⟨by simp, by simp, ?_⟩
  simp only [go_sem] at hK hok hos
  simp (maxSteps := 4000000) only [go_sem, Try.f106, ↓brB_t, ↓brB_f, Nat.reduceAdd, Int.reduceLE, Int.reduceLT, Int.reduceNeg, decide_true, decide_false, Bool.and_self, Nat.succ_eq_add_one, Int.toNat_natCast, Nat.beq_refl, Bool.and_true, Bool.true_and, Bool.false_or, Bool.or_true, List.all_cons, List.all_nil, Nat.reduceMul, Nat.add_zero, Nat.zero_add, List.length_nil, List.length_cons, dite_true, List.nil_append, Nat.reduceBEq, reduceDIte, reduceIte, reduceCtorEq, Bool.or_false, Bool.true_or, Bool.and_false, Bool.false_and, Bool.not_true, Bool.not_false, Option.isSome_some, Option.isSome_none, Option.getD_some, List.getElem?_cons_zero, List.getElem?_cons_succ, eq_self, and_self, List.take_succ_cons, List.take_zero, List.drop_succ_cons, List.drop_zero]
  obtain ⟨⟨hw, hl, hne, h0, hm⟩, hK⟩ := hK
  clear hok hos
  obtain ⟨w1, w2⟩ := Go.Proofs.Ytihfncjpfgdhoaa.L.word_range hw
  obtain ⟨n, hW⟩ := Go.Proofs.Ytihfncjpfgdhoaa.L.word_of w hw
  have hn := hW.len
  have hn2 : w.length / 2 = n := by omega
  rw [hn2] at hK w2
  have hpn := pow_n n (by omega)
  rw [hn2, hpn.2]
  have h64 := hpn.1
  clear hpn
  have hend := sumD_end n (by omega) (by omega)
  have hsb := sumD_le n (by omega)
  rw [← hend] at hK
  generalize hQ : 2 ^ n = Q at *
  refine ⟨by omega, ?_⟩
  refine loop_okF (T := tab [c_chords, c_wordOf, c_D0] [] [p_s1, p_s2]) [0, 1, 8, 9] [(0, 0), (1, 1)] (fun c : Nat => ⟨22, [(0, ri w), (1, .val (.one (.fn 107 [0]))), (8, vi Q), (9, vi c)], [(0, .box 76 [.fn 84 [1]]), (1, .box 2 [.v (.int .i64 (m + sumD n c))])]⟩)
    (fun c => c ≤ Q) (fun c => Q - c) 0 rfl (by rw [show m + sumD n 0 = m from Int.add_zero m]; rfl) (Nat.zero_le _) (fun c hc => ?_)
  simp only [go_sem, ↓brB_t, ↓brB_f, Nat.reduceAdd, Int.reduceLE, Int.reduceLT, Int.reduceNeg, decide_true, decide_false, Bool.and_self, Nat.succ_eq_add_one, Int.toNat_natCast, Nat.beq_refl, Bool.and_true, Bool.true_and, Bool.false_or, Bool.or_true, List.all_cons, List.all_nil, Nat.reduceMul, Nat.add_zero, Nat.zero_add, List.length_nil, List.length_cons, dite_true, List.nil_append, Nat.reduceBEq, reduceDIte, reduceIte, reduceCtorEq, Bool.or_false, Bool.true_or, Bool.and_false, Bool.false_and, Bool.not_true, Bool.not_false, Option.isSome_some, Option.isSome_none, Option.getD_some, List.getElem?_cons_zero, List.getElem?_cons_succ, eq_self, and_self, List.take_succ_cons, List.take_zero, List.drop_succ_cons, List.drop_zero]
  refine brB_intro (fun h1 => ?_) (fun h1 => ?_)
  · have h1 := of_decide_eq_true h1
    have h0' : ∀ x ∈ w, (0 : Int) ≤ x := fun x hx => (w2 x hx).1
    have hkl := kw_len (c := c) hW w2
    have hrl := kr_len (c := c) hW w2
    have hkr : isW (kr w c) = true := filter_isW _ hw
    obtain ⟨n', hW'⟩ := Go.Proofs.Ytihfncjpfgdhoaa.L.word_of (kr w c) hkr
    have hn' := hW'.len
    have hsc := hsb c (by omega)
    have hst := sumD_s n c
    have hpl := pop_le c (by omega) n (by omega)
    have e : (if (kw w c).length = 0 then (0 : Int) else cntD ((kr w c).length / 2)) = stepD n c := by
      unfold stepD
      rw [hkl, show (kr w c).length / 2 = n - popTo n c by omega]
      by_cases hz : popTo n c = 0
      · rw [if_pos (by omega), if_pos hz]
      · rw [if_neg (by omega), if_neg hz]
    rw [tw_kw (by omega) h0', tw_kr (by omega) h0', e, show w64 ((c : Int) + 1) = ((c + 1 : Nat) : Int) from wN (by omega) (by omega)]
    refine ⟨⟨by omega, fun x hx => tw_some' _ (h0' x hx)⟩, ⟨by omega, fun x hx => wo_some (tw_some' _ (h0' x hx))⟩, ⟨by omega, by omega, by omega, ?_⟩, c + 1, [(0, 0), (1, 1)], by omega, by omega, rfl, ?_⟩
    · by_cases hz : popTo n c = 0
      · exact .inl (by omega)
      · exact .inr ⟨hkr, by omega⟩
    · rw [hst, ← Int.add_assoc]; rfl
  · have h1 := of_decide_eq_false h1
    have e : c = Q := by omega
    subst e
    exact retN [0, 1] rfl hK
def c_split0 : Ctr Try.prog := ⟨106, ent Try.func106 rfl rfl, [false, true], sp_split0, good_split0, []⟩
@[go_sem] theorem c_split0_f : c_split0.f = 106 := rfl
@[go_sem] theorem c_split0_ms : c_split0.ms = [false, true] := rfl
@[go_sem] theorem c_split0_sp : c_split0.spec = sp_split0 := rfl
@[go_sem] theorem c_split0_fz : c_split0.fz = [] := rfl
attribute [go_sem] sp_split0
def sp_div0 : List Cv → List Obj' → Tree
  | [.one (.ro (.int .i64) w), .one (.fn 84 [0])], [.box 2 [.v (.int .i64 m)]] => .need (isW w = true ∧ w.length ≤ 8 ∧ 0 ≤ m ∧ m ≤ 100) (.ret (.tup []) [.box 2 [.v (.int .i64 (m + cntD (w.length / 2)))]])
  | _, _ => .fail
set_option maxHeartbeats 4000000 in
set_option maxRecDepth 100000 in
theorem good_div0 : Good Try.prog 83 sp_div0 := by
  refine good_ofF Try.func83 rfl _ rfl _ rfl (tab [c_doN0, c_split0]) (fun X cs os0 K hok hos hK => ?_)
  unfold sp_div0 at hK
  split at hK
  case h_2 => exact hK.elim
  rename_i w m
  refine ⟨by simp, by simp, ?_⟩
  simp only [go_sem] at hK hok hos
  simp (maxSteps := 4000000) only [go_sem, Try.f83, ↓brB_t, ↓brB_f, Nat.reduceAdd, Int.reduceLE, Int.reduceLT, Int.reduceNeg, decide_true, decide_false, Bool.and_self, Nat.succ_eq_add_one, Int.toNat_natCast, Nat.beq_refl, Bool.and_true, Bool.true_and, Bool.false_or, Bool.or_true, List.all_cons, List.all_nil, Nat.reduceMul, Nat.add_zero, Nat.zero_add, List.length_nil, List.length_cons, dite_true, List.nil_append, Nat.reduceBEq, reduceDIte, reduceIte, reduceCtorEq, Bool.or_false, Bool.true_or, Bool.and_false, Bool.false_and, Bool.not_true, Bool.not_false, Option.isSome_some, Option.isSome_none, Option.getD_some, List.getElem?_cons_zero, List.getElem?_cons_succ, eq_self, and_self, List.take_succ_cons, List.take_zero, List.drop_succ_cons, List.drop_zero]
  obtain ⟨⟨hw, hl, h0, hm⟩, hK⟩ := hK
  clear hok hos
  refine brB_intro (fun h1 => ?_) (fun h1 => ?_)
  · have h1 := of_decide_eq_true h1
    rw [show w.length / 2 = 0 by omega] at hK
    exact ⟨⟨by omega, by omega⟩, retN [0] rfl hK⟩
  · have h1 := of_decide_eq_false h1
    exact ⟨⟨hw, by omega, by omega, by omega, by omega⟩, retN [0] rfl hK⟩
def c_div0 : Ctr Try.prog := ⟨83, ent Try.func83 rfl rfl, [false, true], sp_div0, good_div0, []⟩
@[go_sem] theorem c_div0_f : c_div0.f = 83 := rfl
@[go_sem] theorem c_div0_ms : c_div0.ms = [false, true] := rfl
@[go_sem] theorem c_div0_sp : c_div0.spec = sp_div0 := rfl
@[go_sem] theorem c_div0_fz : c_div0.fz = [] := rfl
attribute [go_sem] sp_div0
end Go.Proofs.Ytihfncjpfgdhoaa.V
