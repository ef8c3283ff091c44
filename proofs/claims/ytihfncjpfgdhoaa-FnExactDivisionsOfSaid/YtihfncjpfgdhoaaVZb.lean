/- Contracts: divisions of words, at each depth of closures. Conditions: told by each spec. Printed by a program of the author's. -/
import Derived.Test.YtihfncjpfgdhoaaVZa
set_option linter.unusedVariables false
set_option linter.unusedSimpArgs false
namespace Go.Proofs.Ytihfncjpfgdhoaa.V
open Go
def sp_div4 : List Cv → List Obj' → Tree
  | [.one (.ro (.int .i64) w), .one (.fn 108 [0, 1])], [.box 76 [.fn 108 [2, 3]], .box 22 [.ro (.int .i64) h4], .box 76 [.fn 108 [4, 5]], .box 22 [.ro (.int .i64) h3], .box 76 [.fn 108 [6, 7]], .box 22 [.ro (.int .i64) h2], .box 76 [.fn 84 [8]], .box 22 [.ro (.int .i64) h1], .box 2 [.v (.int .i64 m)]] => .need (isW w = true ∧ w.length ≤ 0 ∧ 0 ≤ m ∧ m ≤ 500 ∧ h4.length ≤ 100 ∧ h3.length ≤ 100 ∧ h2.length ≤ 100 ∧ h1.length ≤ 100) (.ret (.tup []) [.box 76 [.fn 108 [2, 3]], .box 22 [.ro (.int .i64) h4], .box 76 [.fn 108 [4, 5]], .box 22 [.ro (.int .i64) h3], .box 76 [.fn 108 [6, 7]], .box 22 [.ro (.int .i64) h2], .box 76 [.fn 84 [8]], .box 22 [.ro (.int .i64) h1], .box 2 [.v (.int .i64 (m + cntD (w.length / 2)))]])
  | _, _ => .fail
set_option maxHeartbeats 4000000 in
set_option maxRecDepth 100000 in
theorem good_div4 : Good Try.prog 83 sp_div4 := by
  refine good_ofF Try.func83 rfl _ rfl _ rfl (tab [c_doN4]) (fun X cs os0 K hok hos hK => ?_)
  unfold sp_div4 at hK
  split at hK
  case h_2 => exact hK.elim
  rename_i w h4 h3 h2 h1 m
  refine ⟨by simp, by simp, ?_⟩
  simp only [go_sem] at hK hok hos
  simp (maxSteps := 4000000) only [go_sem, Try.f83, ↓brB_t, ↓brB_f, Nat.reduceAdd, Int.reduceLE, Int.reduceLT, Int.reduceNeg, decide_true, decide_false, Bool.and_self, Nat.succ_eq_add_one, Int.toNat_natCast, Nat.beq_refl, Bool.and_true, Bool.true_and, Bool.false_or, Bool.or_true, List.all_cons, List.all_nil, Nat.reduceMul, Nat.add_zero, Nat.zero_add, List.length_nil, List.length_cons, dite_true, List.nil_append, Nat.reduceBEq, reduceDIte, reduceIte, reduceCtorEq, Bool.or_false, Bool.true_or, Bool.and_false, Bool.false_and, Bool.not_true, Bool.not_false, Option.isSome_some, Option.isSome_none, Option.getD_some, List.getElem?_cons_zero, List.getElem?_cons_succ, eq_self, and_self, List.take_succ_cons, List.take_zero, List.drop_succ_cons, List.drop_zero]
  obtain ⟨⟨hw, hl, h0, hm, g4, g3, g2, g1⟩, hK⟩ := hK
  clear hok hos
  refine brB_intro (fun h1 => ?_) (fun h1 => ?_)
  · have h1 := of_decide_eq_true h1
    rw [show w.length / 2 = 0 by omega] at hK
    exact ⟨⟨by omega, by omega, by omega, by omega, by omega, by omega⟩, retN [0, 1, 2, 3, 4, 5, 6, 7, 8] rfl hK⟩
  · have h1 := of_decide_eq_false h1
    omega
def c_div4 : Ctr Try.prog := ⟨83, ent Try.func83 rfl rfl, [false, true], sp_div4, good_div4, []⟩
@[go_sem] theorem c_div4_f : c_div4.f = 83 := rfl
@[go_sem] theorem c_div4_ms : c_div4.ms = [false, true] := rfl
@[go_sem] theorem c_div4_sp : c_div4.spec = sp_div4 := rfl
@[go_sem] theorem c_div4_fz : c_div4.fz = [] := rfl
attribute [go_sem] sp_div4
def sp_D3 : List Cv → List Obj' → Tree
  | [.one (.ro (.int .i64) a), .one (.ro (.int .i64) b), .one (.ptr 0 0)], [.box 76 [.fn 108 [1, 2]], .box 76 [.fn 108 [3, 4]], .box 22 [.ro (.int .i64) h3], .box 76 [.fn 108 [5, 6]], .box 22 [.ro (.int .i64) h2], .box 76 [.fn 84 [7]], .box 22 [.ro (.int .i64) h1], .box 2 [.v (.int .i64 m)]] => .need (0 ≤ m ∧ m ≤ 500 ∧ a.length ≤ 24 ∧ (a.length = 0 ∨ (isW b = true ∧ b.length ≤ 0)) ∧ h3.length ≤ 100 ∧ h2.length ≤ 100 ∧ h1.length ≤ 100) (.ret (.tup []) [.box 76 [.fn 108 [1, 2]], .box 76 [.fn 108 [3, 4]], .box 22 [.ro (.int .i64) h3], .box 76 [.fn 108 [5, 6]], .box 22 [.ro (.int .i64) h2], .box 76 [.fn 84 [7]], .box 22 [.ro (.int .i64) h1], .box 2 [.v (.int .i64 (m + (if a.length = 0 then 0 else cntD (b.length / 2))))]])
  | _, _ => .fail
set_option maxHeartbeats 4000000 in
set_option maxRecDepth 100000 in
theorem good_D3 : Good Try.prog 107 sp_D3 := by
  refine good_ofF Try.func107 rfl _ rfl _ rfl (tab [c_div4]) (fun X cs os0 K hok hos hK => ?_)
  unfold sp_D3 at hK
  split at hK
  case h_2 => exact hK.elim
  rename_i a b h3 h2 h1 m
  refine ⟨by simp, by simp, ?_⟩
  simp only [go_sem] at hK hok hos
  simp (maxSteps := 4000000) only [go_sem, Try.f107, ↓brB_t, ↓brB_f, Nat.reduceAdd, Int.reduceLE, Int.reduceLT, Int.reduceNeg, decide_true, decide_false, Bool.and_self, Nat.succ_eq_add_one, Int.toNat_natCast, Nat.beq_refl, Bool.and_true, Bool.true_and, Bool.false_or, Bool.or_true, List.all_cons, List.all_nil, Nat.reduceMul, Nat.add_zero, Nat.zero_add, List.length_nil, List.length_cons, dite_true, List.nil_append, Nat.reduceBEq, reduceDIte, reduceIte, reduceCtorEq, Bool.or_false, Bool.true_or, Bool.and_false, Bool.false_and, Bool.not_true, Bool.not_false, Option.isSome_some, Option.isSome_none, Option.getD_some, List.getElem?_cons_zero, List.getElem?_cons_succ, eq_self, and_self, List.take_succ_cons, List.take_zero, List.drop_succ_cons, List.drop_zero]
  obtain ⟨⟨h0, hm, ha, hb, g3, g2, g1⟩, hK⟩ := hK
  clear hok hos
  refine brB_intro (fun h1 => ?_) (fun h1 => ?_)
  · have h1 := of_decide_eq_true h1
    rw [if_pos (by omega), Int.add_zero] at hK
    exact retN [0, 1, 2, 3, 4, 5, 6, 7] rfl hK
  · have h1 := of_decide_eq_false h1
    rw [if_neg (by omega)] at hK
    have hb := hb.resolve_left (by omega)
    exact ⟨⟨hb.1, hb.2, by omega, by omega, by omega, by omega, by omega, by omega⟩, retN [0, 1, 2, 3, 4, 5, 6, 7] rfl hK⟩
def c_D3 : Ctr Try.prog := ⟨107, ent Try.func107 rfl rfl, [false, false, true], sp_D3, good_D3, [true, true, false]⟩
@[go_sem] theorem c_D3_f : c_D3.f = 107 := rfl
@[go_sem] theorem c_D3_ms : c_D3.ms = [false, false, true] := rfl
@[go_sem] theorem c_D3_sp : c_D3.spec = sp_D3 := rfl
@[go_sem] theorem c_D3_fz : c_D3.fz = [true, true, false] := rfl
attribute [go_sem] sp_D3
def sp_split3 : List Cv → List Obj' → Tree
  | [.one (.ro (.int .i64) w), .one (.fn 107 [0])], [.box 76 [.fn 108 [1, 2]], .box 76 [.fn 108 [3, 4]], .box 22 [.ro (.int .i64) h3], .box 76 [.fn 108 [5, 6]], .box 22 [.ro (.int .i64) h2], .box 76 [.fn 84 [7]], .box 22 [.ro (.int .i64) h1], .box 2 [.v (.int .i64 m)]] => .need (isW w = true ∧ w.length ≤ 2 ∧ ¬ w.length = 0 ∧ 0 ≤ m ∧ m ≤ 400 ∧ h3.length ≤ 100 ∧ h2.length ≤ 100 ∧ h1.length ≤ 100) (.ret (.tup []) [.box 76 [.fn 108 [1, 2]], .box 76 [.fn 108 [3, 4]], .box 22 [.ro (.int .i64) h3], .box 76 [.fn 108 [5, 6]], .box 22 [.ro (.int .i64) h2], .box 76 [.fn 84 [7]], .box 22 [.ro (.int .i64) h1], .box 2 [.v (.int .i64 (m + cntD (w.length / 2)))]])
  | _, _ => .fail
set_option maxHeartbeats 4000000 in
set_option maxRecDepth 100000 in
theorem good_split3 : Good Try.prog 106 sp_split3 := by
  refine good_ofF Try.func106 rfl _ rfl _ rfl (tab [c_chords, c_wordOf, c_D3] [] [p_s1, p_s2]) (fun X cs os0 K hok hos hK => ?_)
  unfold sp_split3 at hK
  split at hK
  case h_2 => exact hK.elim
  rename_i w h3 h2 h1 m
  refine ⟨by simp, by simp, ?_⟩
  simp only [go_sem] at hK hok hos
  simp (maxSteps := 4000000) only [go_sem, Try.f106, ↓brB_t, ↓brB_f, Nat.reduceAdd, Int.reduceLE, Int.reduceLT, Int.reduceNeg, decide_true, decide_false, Bool.and_self, Nat.succ_eq_add_one, Int.toNat_natCast, Nat.beq_refl, Bool.and_true, Bool.true_and, Bool.false_or, Bool.or_true, List.all_cons, List.all_nil, Nat.reduceMul, Nat.add_zero, Nat.zero_add, List.length_nil, List.length_cons, dite_true, List.nil_append, Nat.reduceBEq, reduceDIte, reduceIte, reduceCtorEq, Bool.or_false, Bool.true_or, Bool.and_false, Bool.false_and, Bool.not_true, Bool.not_false, Option.isSome_some, Option.isSome_none, Option.getD_some, List.getElem?_cons_zero, List.getElem?_cons_succ, eq_self, and_self, List.take_succ_cons, List.take_zero, List.drop_succ_cons, List.drop_zero]
  obtain ⟨⟨hw, hl, hne, h0, hm, g3, g2, g1⟩, hK⟩ := hK
  clear hok hos
  obtain ⟨w1, w2⟩ := Go.Proofs.Ytihfncjpfgdhoaa.L.word_range hw
  obtain ⟨n, hW⟩ := Go.Proofs.Ytihfncjpfgdhoaa.L.word_of w hw
  have hn := hW.len
  have hn2 : w.length / 2 = n := by omega
  rw [hn2] at hK w2
  have hpn := pow_n n (by omega)
  rw [hn2, hpn.2]
  have h64 := hpn.1
  clear hpn
  have hend := sumD_end n (by omega) (by omega)
  have hsb := sumD_le n (by omega)
  rw [← hend] at hK
  generalize hQ : 2 ^ n = Q at *
  refine ⟨by omega, ?_⟩
  refine loop_okF (T := tab [c_chords, c_wordOf, c_D3] [] [p_s1, p_s2]) [0, 1, 8, 9] [(0, 0), (1, 1), (2, 2), (3, 3), (4, 4), (5, 5), (6, 6), (7, 7)] (fun c : Nat => ⟨22, [(0, ri w), (1, .val (.one (.fn 107 [0]))), (8, vi Q), (9, vi c)], [(0, .box 76 [.fn 108 [1, 2]]), (1, .box 76 [.fn 108 [3, 4]]), (2, .box 22 [.ro (.int .i64) h3]), (3, .box 76 [.fn 108 [5, 6]]), (4, .box 22 [.ro (.int .i64) h2]), (5, .box 76 [.fn 84 [7]]), (6, .box 22 [.ro (.int .i64) h1]), (7, .box 2 [.v (.int .i64 (m + sumD n c))])]⟩)
    (fun c => c ≤ Q) (fun c => Q - c) 0 rfl (by rw [show m + sumD n 0 = m from Int.add_zero m]; rfl) (Nat.zero_le _) (fun c hc => ?_)
  simp only [go_sem, ↓brB_t, ↓brB_f, Nat.reduceAdd, Int.reduceLE, Int.reduceLT, Int.reduceNeg, decide_true, decide_false, Bool.and_self, Nat.succ_eq_add_one, Int.toNat_natCast, Nat.beq_refl, Bool.and_true, Bool.true_and, Bool.false_or, Bool.or_true, List.all_cons, List.all_nil, Nat.reduceMul, Nat.add_zero, Nat.zero_add, List.length_nil, List.length_cons, dite_true, List.nil_append, Nat.reduceBEq, reduceDIte, reduceIte, reduceCtorEq, Bool.or_false, Bool.true_or, Bool.and_false, Bool.false_and, Bool.not_true, Bool.not_false, Option.isSome_some, Option.isSome_none, Option.getD_some, List.getElem?_cons_zero, List.getElem?_cons_succ, eq_self, and_self, List.take_succ_cons, List.take_zero, List.drop_succ_cons, List.drop_zero]
  refine brB_intro (fun h1 => ?_) (fun h1 => ?_)
  · have h1 := of_decide_eq_true h1
    have h0' : ∀ x ∈ w, (0 : Int) ≤ x := fun x hx => (w2 x hx).1
    have hkl := kw_len (c := c) hW w2
    have hrl := kr_len (c := c) hW w2
    have hkr : isW (kr w c) = true := filter_isW _ hw
    obtain ⟨n', hW'⟩ := Go.Proofs.Ytihfncjpfgdhoaa.L.word_of (kr w c) hkr
    have hn' := hW'.len
    have hsc := hsb c (by omega)
    have hst := sumD_s n c
    have hpl := pop_le c (by omega) n (by omega)
    have e : (if (kw w c).length = 0 then (0 : Int) else cntD ((kr w c).length / 2)) = stepD n c := by
      unfold stepD
      rw [hkl, show (kr w c).length / 2 = n - popTo n c by omega]
      by_cases hz : popTo n c = 0
      · rw [if_pos (by omega), if_pos hz]
      · rw [if_neg (by omega), if_neg hz]
    rw [tw_kw (by omega) h0', tw_kr (by omega) h0', e, show w64 ((c : Int) + 1) = ((c + 1 : Nat) : Int) from wN (by omega) (by omega)]
    refine ⟨⟨by omega, fun x hx => tw_some' _ (h0' x hx)⟩, ⟨by omega, fun x hx => wo_some (tw_some' _ (h0' x hx))⟩, ⟨by omega, by omega, by omega, ?_, by omega, by omega, by omega⟩, c + 1, [(0, 0), (1, 1), (2, 2), (3, 3), (4, 4), (5, 5), (6, 6), (7, 7)], by omega, by omega, rfl, ?_⟩
    · by_cases hz : popTo n c = 0
      · exact .inl (by omega)
      · exact .inr ⟨hkr, by omega⟩
    · rw [hst, ← Int.add_assoc]; rfl
  · have h1 := of_decide_eq_false h1
    have e : c = Q := by omega
    subst e
    exact retN [0, 1, 2, 3, 4, 5, 6, 7] rfl hK
def c_split3 : Ctr Try.prog := ⟨106, ent Try.func106 rfl rfl, [false, true], sp_split3, good_split3, []⟩
@[go_sem] theorem c_split3_f : c_split3.f = 106 := rfl
@[go_sem] theorem c_split3_ms : c_split3.ms = [false, true] := rfl
@[go_sem] theorem c_split3_sp : c_split3.spec = sp_split3 := rfl
@[go_sem] theorem c_split3_fz : c_split3.fz = [] := rfl
attribute [go_sem] sp_split3
def sp_div3 : List Cv → List Obj' → Tree
  | [.one (.ro (.int .i64) w), .one (.fn 108 [0, 1])], [.box 76 [.fn 108 [2, 3]], .box 22 [.ro (.int .i64) h3], .box 76 [.fn 108 [4, 5]], .box 22 [.ro (.int .i64) h2], .box 76 [.fn 84 [6]], .box 22 [.ro (.int .i64) h1], .box 2 [.v (.int .i64 m)]] => .need (isW w = true ∧ w.length ≤ 2 ∧ 0 ≤ m ∧ m ≤ 400 ∧ h3.length ≤ 100 ∧ h2.length ≤ 100 ∧ h1.length ≤ 100) (.ret (.tup []) [.box 76 [.fn 108 [2, 3]], .box 22 [.ro (.int .i64) h3], .box 76 [.fn 108 [4, 5]], .box 22 [.ro (.int .i64) h2], .box 76 [.fn 84 [6]], .box 22 [.ro (.int .i64) h1], .box 2 [.v (.int .i64 (m + cntD (w.length / 2)))]])
  | _, _ => .fail
set_option maxHeartbeats 4000000 in
set_option maxRecDepth 100000 in
theorem good_div3 : Good Try.prog 83 sp_div3 := by
  refine good_ofF Try.func83 rfl _ rfl _ rfl (tab [c_doN3, c_split3]) (fun X cs os0 K hok hos hK => ?_)
  unfold sp_div3 at hK
  split at hK
  case h_2 => exact hK.elim
  rename_i w h3 h2 h1 m
  refine ⟨by simp, by simp, ?_⟩
  simp only [go_sem] at hK hok hos
  simp (maxSteps := 4000000) only [go_sem, Try.f83, ↓brB_t, ↓brB_f, Nat.reduceAdd, Int.reduceLE, Int.reduceLT, Int.reduceNeg, decide_true, decide_false, Bool.and_self, Nat.succ_eq_add_one, Int.toNat_natCast, Nat.beq_refl, Bool.and_true, Bool.true_and, Bool.false_or, Bool.or_true, List.all_cons, List.all_nil, Nat.reduceMul, Nat.add_zero, Nat.zero_add, List.length_nil, List.length_cons, dite_true, List.nil_append, Nat.reduceBEq, reduceDIte, reduceIte, reduceCtorEq, Bool.or_false, Bool.true_or, Bool.and_false, Bool.false_and, Bool.not_true, Bool.not_false, Option.isSome_some, Option.isSome_none, Option.getD_some, List.getElem?_cons_zero, List.getElem?_cons_succ, eq_self, and_self, List.take_succ_cons, List.take_zero, List.drop_succ_cons, List.drop_zero]
  obtain ⟨⟨hw, hl, h0, hm, g3, g2, g1⟩, hK⟩ := hK
  clear hok hos
  refine brB_intro (fun h1 => ?_) (fun h1 => ?_)
  · have h1 := of_decide_eq_true h1
    rw [show w.length / 2 = 0 by omega] at hK
    exact ⟨⟨by omega, by omega, by omega, by omega, by omega⟩, retN [0, 1, 2, 3, 4, 5, 6] rfl hK⟩
  · have h1 := of_decide_eq_false h1
    exact ⟨⟨hw, by omega, by omega, by omega, by omega, by omega, by omega, by omega⟩, retN [0, 1, 2, 3, 4, 5, 6] rfl hK⟩
def c_div3 : Ctr Try.prog := ⟨83, ent Try.func83 rfl rfl, [false, true], sp_div3, good_div3, []⟩
@[go_sem] theorem c_div3_f : c_div3.f = 83 := rfl
@[go_sem] theorem c_div3_ms : c_div3.ms = [false, true] := rfl
@[go_sem] theorem c_div3_sp : c_div3.spec = sp_div3 := rfl
@[go_sem] theorem c_div3_fz : c_div3.fz = [] := rfl
attribute [go_sem] sp_div3
end Go.Proofs.Ytihfncjpfgdhoaa.V
