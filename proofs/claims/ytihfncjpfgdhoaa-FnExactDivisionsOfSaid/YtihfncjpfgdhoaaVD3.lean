/- Contracts: the free weight on both sides. Conditions: told by each spec. -/
import Derived.Test.YtihfncjpfgdhoaaVD2
import Derived.Test.YtihfncjpfgdhoaaVC6
set_option linter.unusedVariables false
set_option linter.unusedSimpArgs false
namespace Go.Proofs.Ytihfncjpfgdhoaa.V
open Go
abbrev bxL (i : Nat) : Obj' := .box 22 [.own i]
def noneF (_ : HT [Kn.int .i64]) : Option Bool := some false
def sp_none : List Cv → List Obj' → Tree
  | [.one (.v (.int .i64 x))], [] => .ret (vb false) []
  | _, _ => .fail
set_option maxHeartbeats 4000000 in
set_option maxRecDepth 100000 in
theorem good_none : Good Try.prog 135 sp_none := by
  refine good_ofF Try.func135 rfl _ rfl _ rfl (tab []) (fun X cs os0 K hok hos hK => ?_)
  clear hos; unfold sp_none at hK
  split at hK
  case h_2 => exact hK.elim
  rename_i x
  refine ⟨by simp, by simp, ?_⟩
  simp only [go_sem] at hK hok
  simp (maxSteps := 4000000) only [go_sem, Try.f135, ↓brB_t, ↓brB_f, Nat.reduceAdd, Int.reduceLE, Int.reduceLT, Int.reduceNeg, decide_true, decide_false, Bool.and_self, Nat.succ_eq_add_one, Int.toNat_natCast, Nat.beq_refl, Bool.and_true, Bool.true_and, Bool.false_or, Bool.or_true, List.all_cons, List.all_nil, Nat.reduceMul, Nat.add_zero, Nat.zero_add, List.length_nil, List.length_cons, dite_true, List.nil_append, Nat.reduceBEq, reduceDIte, reduceIte, reduceCtorEq, Bool.or_false, Bool.true_or, Bool.and_false, Bool.false_and, Bool.not_true, Bool.not_false, Option.isSome_some, Option.isSome_none, Option.getD_some, List.getElem?_cons_zero, List.getElem?_cons_succ, eq_self, and_self, List.take_succ_cons, List.take_zero, List.drop_succ_cons, List.drop_zero]
  exact ret0 hK
def p_none : PF0 Try.prog := ⟨135, entB Try.func135 rfl rfl, [.int .i64], .bool, noneF, sp_none, good_none, fun xs y h K hK => by injection h with h; subst h; exact hK⟩
@[go_sem] theorem p_none_f : p_none.f = 135 := rfl
@[go_sem] theorem p_none_v : Rv.val (.one (.pf p_none.ks p_none.r p_none.g)) = Rv.val (.one (.pf [.int .i64] .bool noneF)) := rfl
theorem none_tst : (fun i : Nat => tst noneF (i : Int)) = fun _ => false := rfl
/-- Where the weight of chosen and other chords goes. -/
def frP (a b : List Int) : Nat := a.length / 2 + circ b (fun _ => false) - 1
def sp_fr1 : List Cv → List Obj' → Tree
  | [.one (.ro (.int .i64) a), .one (.ro (.int .i64) b), .one (.ptr 0 0)], [.box 22 [.own 1], .row 2 (.int .i64) l] => .need ((isW b = true ∧ a.length ≤ 12) ∧ frP a b < l.length ∧ -1000 ≤ (l : List Int).getD (frP a b) 0 ∧ (l : List Int).getD (frP a b) 0 ≤ 1000)
    (.ret (.tup []) [bxL 1, rwi ((l : List Int).set (frP a b) ((l : List Int).getD (frP a b) 0 + (1 - 2 * ((a.length / 2 % 2 : Nat) : Int))))])
  | _, _ => .fail
set_option maxHeartbeats 4000000 in
set_option maxRecDepth 100000 in
theorem good_fr1 : Good Try.prog 134 sp_fr1 := by
  refine good_ofF Try.func134 rfl _ rfl _ rfl (tab [c_chords, c_circlesI, c_weights] [p_none]) (fun X cs os0 K hok hos hK => ?_)
  unfold sp_fr1 at hK
  split at hK
  case h_2 => exact hK.elim
  rename_i a b l
  refine ⟨by simp, by simp, ?_⟩
  simp only [go_sem] at hK hok hos
  simp (maxSteps := 4000000) only [go_sem, Try.f134, ↓brB_t, ↓brB_f, Nat.reduceAdd, Int.reduceLE, Int.reduceLT, Int.reduceNeg, decide_true, decide_false, Bool.and_self, Nat.succ_eq_add_one, Int.toNat_natCast, Nat.beq_refl, Bool.and_true, Bool.true_and, Bool.false_or, Bool.or_true, List.all_cons, List.all_nil, Nat.reduceMul, Nat.add_zero, Nat.zero_add, List.length_nil, List.length_cons, dite_true, List.nil_append, Nat.reduceBEq, reduceDIte, reduceIte, reduceCtorEq, Bool.or_false, Bool.true_or, Bool.and_false, Bool.false_and, Bool.not_true, Bool.not_false, Option.isSome_some, Option.isSome_none, Option.getD_some, List.getElem?_cons_zero, List.getElem?_cons_succ, eq_self, and_self, List.take_succ_cons, List.take_zero, List.drop_succ_cons, List.drop_zero]
  obtain ⟨⟨⟨hb, ha⟩, h1, h2, h3⟩, hK⟩ := hK
  clear hok hos
  obtain ⟨m, hm⟩ := Go.Proofs.Ytihfncjpfgdhoaa.L.word_of b hb
  have hbl := (Go.Proofs.Ytihfncjpfgdhoaa.L.word_range hb).1
  have hc := circ_le hm (fun _ => false)
  have hcp := circ_pos b (fun _ => false)
  have hml := hm.len
  have e1 : w64 (((a.length / 2 : Nat) : Int) + ((circ b (fun _ => false) : Nat) : Int)) = ((a.length / 2 + circ b (fun _ => false) : Nat) : Int) := wN (by omega) (by omega)
  have e2 : w64 (((a.length / 2 + circ b (fun _ => false) : Nat) : Int) - 1) = ((frP a b : Nat) : Int) := wN (by unfold frP; omega) (by unfold frP; omega)
  have e3 : w64 (1 - w64 (2 * ((a.length / 2 : Nat) : Int).tmod 2)) = 1 - 2 * ((a.length / 2 % 2 : Nat) : Int) := by
    rw [show ((a.length / 2 : Nat) : Int).tmod 2 = ((a.length / 2 % 2 : Nat) : Int) from tN (a.length / 2) 2, w64_id (x := 2 * ((a.length / 2 % 2 : Nat) : Int)) (by omega) (by omega), w64_id (by omega) (by omega)]
  rw [none_tst, e1, e2, e3, Int.toNat_natCast]
  exact ⟨⟨hb, fun i _ => rfl⟩, by decide, ⟨⟨by omega, by omega⟩, ⟨Int.le_trans (by decide) h2, Int.le_trans h3 (by decide)⟩, by omega, by omega⟩, by kernel_rfl, retN [0, 1] rfl hK⟩
def c_fr1 : Ctr Try.prog := ⟨134, ent Try.func134 rfl rfl, [false, false, true], sp_fr1, good_fr1, []⟩
@[go_sem] theorem c_fr1_f : c_fr1.f = 134 := rfl
@[go_sem] theorem c_fr1_ms : c_fr1.ms = [false, false, true] := rfl
@[go_sem] theorem c_fr1_sp : c_fr1.spec = sp_fr1 := rfl
@[go_sem] theorem c_fr1_fz : c_fr1.fz = [] := rfl
attribute [go_sem] sp_fr1
/-! ### split -/
set_option maxHeartbeats 4000000 in
set_option maxRecDepth 100000 in
theorem good_s1 : Good Try.prog 125 sp_tw1 := by
  refine good_ofF Try.func125 rfl _ rfl _ rfl (tab []) (fun X cs os0 K hok hos hK => ?_)
  clear hos; unfold sp_tw1 at hK
  split at hK
  case h_2 => exact hK.elim
  rename_i i c
  refine ⟨by simp, by simp, ?_⟩
  simp only [go_sem] at hK hok
  simp (maxSteps := 4000000) only [go_sem, Try.f125, ↓brB_t, ↓brB_f, Nat.reduceAdd, Int.reduceLE, Int.reduceLT, Int.reduceNeg, decide_true, decide_false, Bool.and_self, Nat.succ_eq_add_one, Int.toNat_natCast, Nat.beq_refl, Bool.and_true, Bool.true_and, Bool.false_or, Bool.or_true, List.all_cons, List.all_nil, Nat.reduceMul, Nat.add_zero, Nat.zero_add, List.length_nil, List.length_cons, dite_true, List.nil_append, Nat.reduceBEq, reduceDIte, reduceIte, reduceCtorEq, Bool.or_false, Bool.true_or, Bool.and_false, Bool.false_and, Bool.not_true, Bool.not_false, Option.isSome_some, Option.isSome_none, Option.getD_some, List.getElem?_cons_zero, List.getElem?_cons_succ, eq_self, and_self, List.take_succ_cons, List.take_zero, List.drop_succ_cons, List.drop_zero]
  exact ⟨hK.1, ret0 hK.2⟩
set_option maxHeartbeats 4000000 in
set_option maxRecDepth 100000 in
theorem good_s2 : Good Try.prog 127 sp_wo1 := by
  refine good_ofF Try.func127 rfl _ rfl _ rfl (tab []) (fun X cs os0 K hok hos hK => ?_)
  clear hos; unfold sp_wo1 at hK
  split at hK
  case h_2 => exact hK.elim
  rename_i x f
  refine ⟨by simp, by simp, ?_⟩
  simp only [go_sem] at hK hok
  simp (maxSteps := 4000000) only [go_sem, Try.f127, ↓brB_t, ↓brB_f, Nat.reduceAdd, Int.reduceLE, Int.reduceLT, Int.reduceNeg, decide_true, decide_false, Bool.and_self, Nat.succ_eq_add_one, Int.toNat_natCast, Nat.beq_refl, Bool.and_true, Bool.true_and, Bool.false_or, Bool.or_true, List.all_cons, List.all_nil, Nat.reduceMul, Nat.add_zero, Nat.zero_add, List.length_nil, List.length_cons, dite_true, List.nil_append, Nat.reduceBEq, reduceDIte, reduceIte, reduceCtorEq, Bool.or_false, Bool.true_or, Bool.and_false, Bool.false_and, Bool.not_true, Bool.not_false, Option.isSome_some, Option.isSome_none, Option.getD_some, List.getElem?_cons_zero, List.getElem?_cons_succ, eq_self, and_self, List.take_succ_cons, List.take_zero, List.drop_succ_cons, List.drop_zero]
  exact ⟨hK.1, ret0 hK.2⟩
def p_s1 : PFn Try.prog := ⟨125, entB Try.func125 rfl rfl, [.d (.int .i64)], [.int .i64], .bool, twF, sp_tw1, good_s1, fun ys xs y h K hK => by
  unfold twF at h
  split at h
  · rename_i hc
    injection h with h; subst h
    exact ⟨hc, hK⟩
  · cases h⟩
@[go_sem] theorem p_s1_f : p_s1.f = 125 := rfl
@[go_sem] theorem p_s1_caps (args : List Rv) : (capsM p_s1.cks args fun ys => .ret (.val (.one (.pf p_s1.ks p_s1.r (p_s1.g ys))))) = capsM [.d (.int .i64)] args fun ys => .ret (.val (.one (.pf [.int .i64] .bool (twF ys)))) := rfl
def p_s2 : PFn Try.prog := ⟨127, entB Try.func127 rfl rfl, [.p [.int .i64] .bool], [.int .i64], .bool, woF, sp_wo1, good_s2, p_wo.eq⟩
@[go_sem] theorem p_s2_f : p_s2.f = 127 := rfl
@[go_sem] theorem p_s2_caps (args : List Rv) : (capsM p_s2.cks args fun ys => .ret (.val (.one (.pf p_s2.ks p_s2.r (p_s2.g ys))))) = capsM [.p [.int .i64] .bool] args fun ys => .ret (.val (.one (.pf [.int .i64] .bool (woF ys)))) := rfl
theorem tw_some' (c : Int) {x : Int} (h : 0 ≤ x) : (twF (c, ()) (x, ())).isSome = true := by
  unfold twF
  rw [if_pos (show (0 : Int) ≤ x from h)]; rfl
theorem tw_tst {c : Nat} (hc : c < 64) {x : Int} (h : 0 ≤ x) : tst (twF (((c : Nat) : Int), ())) x = bitB c x.toNat := by
  obtain ⟨i, rfl⟩ : ∃ i : Nat, x = i := ⟨x.toNat, by omega⟩
  rw [Int.toNat_natCast]
  exact congrFun (tw_eq hc) i
theorem tw_kw {w : List Int} {c : Nat} (hc : c < 64) (h : ∀ x ∈ w, 0 ≤ x) : Go.Proofs.Ytihfncjpfgdhoaa.K.normalL (w.filter (tst (twF (((c : Nat) : Int), ())))) = kw w c := by
  unfold kw
  congr 1
  exact List.filter_congr fun x hx => tw_tst hc (h x hx)
theorem tw_kr {w : List Int} {c : Nat} (hc : c < 64) (h : ∀ x ∈ w, 0 ≤ x) : Go.Proofs.Ytihfncjpfgdhoaa.K.normalL (w.filter (tst (woF (twF (((c : Nat) : Int), ()), ())))) = kr w c := by
  unfold kr
  congr 1
  exact List.filter_congr fun x hx => by rw [wo_tst (tw_some' _ (h x hx)), tw_tst hc (h x hx)]
def sp_splitF : List Cv → List Obj' → Tree
  | [.one (.ro (.int .i64) w), .one (.fn 134 [0])], [.box 22 [.own 1], .row 2 (.int .i64) l] => .need (isW w = true ∧ (l : List Int) = frW w 0) (.ret (.tup []) [bxL 1, rwi (frW w (2 ^ (w.length / 2)))])
  | _, _ => .fail
set_option maxHeartbeats 4000000 in
set_option maxRecDepth 100000 in
theorem good_splitF : Good Try.prog 106 sp_splitF := by
  refine good_ofF Try.func106 rfl _ rfl _ rfl (tab [c_chords, c_wordOf, c_fr1] [] [p_s1, p_s2]) (fun X cs os0 K hok hos hK => ?_)
  unfold sp_splitF at hK
  split at hK
  case h_2 => exact hK.elim
  rename_i w l
  refine ⟨by simp, by simp, ?_⟩
  simp only [go_sem] at hK hok hos
  simp (maxSteps := 4000000) only [go_sem, Try.f106, ↓brB_t, ↓brB_f, Nat.reduceAdd, Int.reduceLE, Int.reduceLT, Int.reduceNeg, decide_true, decide_false, Bool.and_self, Nat.succ_eq_add_one, Int.toNat_natCast, Nat.beq_refl, Bool.and_true, Bool.true_and, Bool.false_or, Bool.or_true, List.all_cons, List.all_nil, Nat.reduceMul, Nat.add_zero, Nat.zero_add, List.length_nil, List.length_cons, dite_true, List.nil_append, Nat.reduceBEq, reduceDIte, reduceIte, reduceCtorEq, Bool.or_false, Bool.true_or, Bool.and_false, Bool.false_and, Bool.not_true, Bool.not_false, Option.isSome_some, Option.isSome_none, Option.getD_some, List.getElem?_cons_zero, List.getElem?_cons_succ, eq_self, and_self, List.take_succ_cons, List.take_zero, List.drop_succ_cons, List.drop_zero]
  obtain ⟨⟨hw, rfl⟩, hK⟩ := hK
  clear hok hos
  obtain ⟨w1, w2⟩ := Go.Proofs.Ytihfncjpfgdhoaa.L.word_range hw
  obtain ⟨n, hW⟩ := Go.Proofs.Ytihfncjpfgdhoaa.L.word_of w hw
  have hn := hW.len
  have hn2 : w.length / 2 = n := by omega
  rw [hn2] at hK w2
  have hpn := pow_n n (by omega)
  rw [hn2, hpn.2]
  have h64 := hpn.1
  clear hpn
  generalize hQ : 2 ^ n = Q at *
  refine ⟨by omega, ?_⟩
  refine loop_okF (T := tab [c_chords, c_wordOf, c_fr1] [] [p_s1, p_s2]) [0, 1, 8, 9] [(0, 0), (1, 1)] (fun c : Nat => ⟨22, [(0, ri w), (1, .val (.one (.fn 134 [0]))), (8, vi Q), (9, vi c)], [(0, bxL 1), (1, rwi (frW w c))]⟩)
    (fun c => c ≤ Q) (fun c => Q - c) 0 rfl rfl (Nat.zero_le _) (fun c hc => ?_)
  simp only [go_sem, ↓brB_t, ↓brB_f, Nat.reduceAdd, Int.reduceLE, Int.reduceLT, Int.reduceNeg, decide_true, decide_false, Bool.and_self, Nat.succ_eq_add_one, Int.toNat_natCast, Nat.beq_refl, Bool.and_true, Bool.true_and, Bool.false_or, Bool.or_true, List.all_cons, List.all_nil, Nat.reduceMul, Nat.add_zero, Nat.zero_add, List.length_nil, List.length_cons, dite_true, List.nil_append, Nat.reduceBEq, reduceDIte, reduceIte, reduceCtorEq, Bool.or_false, Bool.true_or, Bool.and_false, Bool.false_and, Bool.not_true, Bool.not_false, Option.isSome_some, Option.isSome_none, Option.getD_some, List.getElem?_cons_zero, List.getElem?_cons_succ, eq_self, and_self, List.take_succ_cons, List.take_zero, List.drop_succ_cons, List.drop_zero]
  refine brB_intro (fun h1 => ?_) (fun h1 => ?_)
  · have h1 := of_decide_eq_true h1
    have h0 : ∀ x ∈ w, (0 : Int) ≤ x := fun x hx => (w2 x hx).1
    have hfc := frC_eq (c := c) hw hW w2
    have hkl := kw_len (c := c) hW w2
    have hpn := pop_n n (by omega) c (by omega) (by omega)
    have hfp : frP (kw w c) (kr w c) = frC w c := by
      unfold frP
      rw [hkl, show 2 * popTo n c / 2 = popTo n c by omega, ← hfc.1]
    have hsg : 1 - 2 * (((kw w c).length / 2 % 2 : Nat) : Int) = sgn2 c := by
      rw [hkl, show 2 * popTo n c / 2 = popTo n c by omega, hpn]; rfl
    have hfl : (frW w c).length = n + 2 := by rw [frW, acc_len, hn2]
    have hab := acc_abs (M := w.length / 2 + 2) (cs := frC w) (val := sgn2) sgn2_abs (fun c => by unfold frC; omega) c (frC w c)
    have hstep : frW w (c + 1) = (frW w c).set (frC w c) ((frW w c).getD (frC w c) 0 + sgn2 c) := rfl
    have hkw : (kw w c).length ≤ 12 := by
      have := pop_le c (by omega) n (by omega)
      omega
    have hkr : isW (kr w c) = true := filter_isW _ hw
    have hl := hfc.2
    rw [tw_kw (by omega) h0, tw_kr (by omega) h0, hfp, hsg, ← hstep, hfl, show w64 ((c : Int) + 1) = ((c + 1 : Nat) : Int) from wN (by omega) (by omega)]
    exact ⟨⟨by omega, fun x hx => tw_some' _ (h0 x hx)⟩, ⟨by omega, fun x hx => wo_some (tw_some' _ (h0 x hx))⟩, ⟨⟨hkr, hkw⟩, by omega, Int.le_trans (show (-1000 : Int) ≤ -(c : Int) by omega) hab.1, Int.le_trans hab.2 (show (c : Int) ≤ 1000 by omega)⟩, c + 1, [(0, 0), (1, 1)], by omega, by omega, rfl, rfl⟩
  · have h1 := of_decide_eq_false h1
    have e : c = Q := by omega
    subst e
    exact retN [0, 1] rfl hK
def c_splitF : Ctr Try.prog := ⟨106, ent Try.func106 rfl rfl, [false, true], sp_splitF, good_splitF, []⟩
@[go_sem] theorem c_splitF_f : c_splitF.f = 106 := rfl
@[go_sem] theorem c_splitF_ms : c_splitF.ms = [false, true] := rfl
@[go_sem] theorem c_splitF_sp : c_splitF.spec = sp_splitF := rfl
@[go_sem] theorem c_splitF_fz : c_splitF.fz = [] := rfl
attribute [go_sem] sp_splitF
def sp_free : List Cv → List Obj' → Tree
  | [.one (.ro (.int .i64) w)], [] => .need (isW w = true) (.ret (ow 0) [rwi (trimL (frW w (2 ^ (w.length / 2))))])
  | _, _ => .fail
set_option maxHeartbeats 4000000 in
set_option maxRecDepth 100000 in
theorem good_free : Good Try.prog 120 sp_free := by
  refine good_ofF Try.func120 rfl _ rfl _ rfl (tab [c_chords, c_splitF, c_trimmed]) (fun X cs os0 K hok hos hK => ?_)
  clear hos; unfold sp_free at hK
  split at hK
  case h_2 => exact hK.elim
  rename_i w
  refine ⟨by simp, by simp, ?_⟩
  simp only [go_sem] at hK hok
  simp (maxSteps := 4000000) only [go_sem, Try.f120, ↓brB_t, ↓brB_f, Nat.reduceAdd, Int.reduceLE, Int.reduceLT, Int.reduceNeg, decide_true, decide_false, Bool.and_self, Nat.succ_eq_add_one, Int.toNat_natCast, Nat.beq_refl, Bool.and_true, Bool.true_and, Bool.false_or, Bool.or_true, List.all_cons, List.all_nil, Nat.reduceMul, Nat.add_zero, Nat.zero_add, List.length_nil, List.length_cons, dite_true, List.nil_append, Nat.reduceBEq, reduceDIte, reduceIte, reduceCtorEq, Bool.or_false, Bool.true_or, Bool.and_false, Bool.false_and, Bool.not_true, Bool.not_false, Option.isSome_some, Option.isSome_none, Option.getD_some, List.getElem?_cons_zero, List.getElem?_cons_succ, eq_self, and_self, List.take_succ_cons, List.take_zero, List.drop_succ_cons, List.drop_zero]
  obtain ⟨hw, hK⟩ := hK
  clear hok
  obtain ⟨w1, w2⟩ := Go.Proofs.Ytihfncjpfgdhoaa.L.word_range hw
  rw [show w64 (((w.length / 2 : Nat) : Int) + 2) = ((w.length / 2 + 2 : Nat) : Int) from wN (by omega) (by omega)]
  rw [Int.toNat_natCast]
  exact ⟨⟨by omega, by omega, trivial⟩, ⟨hw, rfl⟩, brB_intro (fun h => by rw [of_decide_eq_true h] at hK; exact retN [128] rfl hK) (fun h => retN [208] rfl hK)⟩
def c_free : Ctr Try.prog := ⟨120, ent Try.func120 rfl rfl, [], sp_free, good_free, []⟩
@[go_sem] theorem c_free_f : c_free.f = 120 := rfl
@[go_sem] theorem c_free_ms : c_free.ms = [] := rfl
@[go_sem] theorem c_free_sp : c_free.spec = sp_free := rfl
@[go_sem] theorem c_free_fz : c_free.fz = [] := rfl
attribute [go_sem] sp_free
/-! ### the reference -/
def sp_l05None : List Cv → List Obj' → Tree
  | [.one (.ro (.int .i64) w)], [] => .need (w.length ≤ 1000000) (.ret (ow 0) [rwb (List.replicate (w.length / 2) false)])
  | _, _ => .fail
set_option maxHeartbeats 4000000 in
set_option maxRecDepth 100000 in
theorem good_l05None : Good Try.prog 113 sp_l05None := by
  refine good_ofF Try.func113 rfl _ rfl _ rfl (tab []) (fun X cs os0 K hok hos hK => ?_)
  clear hos; unfold sp_l05None at hK
  split at hK
  case h_2 => exact hK.elim
  rename_i w
  refine ⟨by simp, by simp, ?_⟩
  simp only [go_sem] at hK hok
  simp (maxSteps := 4000000) only [go_sem, Try.f113, ↓brB_t, ↓brB_f, Nat.reduceAdd, Int.reduceLE, Int.reduceLT, Int.reduceNeg, decide_true, decide_false, Bool.and_self, Nat.succ_eq_add_one, Int.toNat_natCast, Nat.beq_refl, Bool.and_true, Bool.true_and, Bool.false_or, Bool.or_true, List.all_cons, List.all_nil, Nat.reduceMul, Nat.add_zero, Nat.zero_add, List.length_nil, List.length_cons, dite_true, List.nil_append, Nat.reduceBEq, reduceDIte, reduceIte, reduceCtorEq, Bool.or_false, Bool.true_or, Bool.and_false, Bool.false_and, Bool.not_true, Bool.not_false, Option.isSome_some, Option.isSome_none, Option.getD_some, List.getElem?_cons_zero, List.getElem?_cons_succ, eq_self, and_self, List.take_succ_cons, List.take_zero, List.drop_succ_cons, List.drop_zero]
  obtain ⟨hl, hK⟩ := hK
  clear hok
  rw [half (by omega), Int.toNat_natCast]
  exact ⟨by decide, ⟨by omega, by omega, trivial⟩, retN [112] rfl hK⟩
def c_l05None : Ctr Try.prog := ⟨113, ent Try.func113 rfl rfl, [], sp_l05None, good_l05None, []⟩
@[go_sem] theorem c_l05None_f : c_l05None.f = 113 := rfl
@[go_sem] theorem c_l05None_ms : c_l05None.ms = [] := rfl
@[go_sem] theorem c_l05None_sp : c_l05None.spec = sp_l05None := rfl
@[go_sem] theorem c_l05None_fz : c_l05None.fz = [] := rfl
attribute [go_sem] sp_l05None
def keptL (w : List Int) (kp : List Bool) : List Int := w.filter fun x => kp.getD x.toNat false
def sp_l01Some : List Cv → List Obj' → Tree
  | [.one (.ro (.int .i64) w), .one (.ro .bool kp)], [] => .need (w.length < 1099511627776 ∧ ∀ x ∈ (w : List Int), 0 ≤ x ∧ x < (kp : List Bool).length) (.ret (ow 0) [rwi (Go.Proofs.Ytihfncjpfgdhoaa.K.normalL (keptL w kp))])
  | _, _ => .fail
set_option maxHeartbeats 4000000 in
set_option maxRecDepth 100000 in
theorem good_l01Some : Good Try.prog 115 sp_l01Some := by
  refine good_ofF Try.func115 rfl _ rfl _ rfl (tab [c_l01Normal]) (fun X cs os0 K hok hos hK => ?_)
  clear hos; unfold sp_l01Some at hK
  split at hK
  case h_2 => exact hK.elim
  rename_i w kp
  refine ⟨by simp, by simp, ?_⟩
  simp only [go_sem] at hK hok
  simp (maxSteps := 4000000) only [go_sem, Try.f115, ↓brB_t, ↓brB_f, Nat.reduceAdd, Int.reduceLE, Int.reduceLT, Int.reduceNeg, decide_true, decide_false, Bool.and_self, Nat.succ_eq_add_one, Int.toNat_natCast, Nat.beq_refl, Bool.and_true, Bool.true_and, Bool.false_or, Bool.or_true, List.all_cons, List.all_nil, Nat.reduceMul, Nat.add_zero, Nat.zero_add, List.length_nil, List.length_cons, dite_true, List.nil_append, Nat.reduceBEq, reduceDIte, reduceIte, reduceCtorEq, Bool.or_false, Bool.true_or, Bool.and_false, Bool.false_and, Bool.not_true, Bool.not_false, Option.isSome_some, Option.isSome_none, Option.getD_some, List.getElem?_cons_zero, List.getElem?_cons_succ, eq_self, and_self, List.take_succ_cons, List.take_zero, List.drop_succ_cons, List.drop_zero]
  obtain ⟨⟨hl, hr⟩, hK⟩ := hK
  clear hok
  refine loop_okF (T := tab [c_l01Normal]) [0, 1, 5, 6] [(16, 128)] (fun i : Nat => ⟨30, [(0, ri w), (1, .val (.one (.ro .bool kp))), (5, ow 16), (6, vi i)], [(16, rwi (keptL ((w : List Int).take i) kp))]⟩)
    (fun i => i ≤ w.length) (fun i => w.length - i) 0 rfl rfl (Nat.zero_le _) (fun i hi => ?_)
  have hkl : (keptL ((w : List Int).take i) kp).length ≤ w.length := Nat.le_trans (List.length_filter_le _ _) (by rw [List.length_take]; omega)
  simp only [go_sem, ↓brB_t, ↓brB_f, Nat.reduceAdd, Int.reduceLE, Int.reduceLT, Int.reduceNeg, decide_true, decide_false, Bool.and_self, Nat.succ_eq_add_one, Int.toNat_natCast, Nat.beq_refl, Bool.and_true, Bool.true_and, Bool.false_or, Bool.or_true, List.all_cons, List.all_nil, Nat.reduceMul, Nat.add_zero, Nat.zero_add, List.length_nil, List.length_cons, dite_true, List.nil_append, Nat.reduceBEq, reduceDIte, reduceIte, reduceCtorEq, Bool.or_false, Bool.true_or, Bool.and_false, Bool.false_and, Bool.not_true, Bool.not_false, Option.isSome_some, Option.isSome_none, Option.getD_some, List.getElem?_cons_zero, List.getElem?_cons_succ, eq_self, and_self, List.take_succ_cons, List.take_zero, List.drop_succ_cons, List.drop_zero]
  refine brB_intro (fun h1 => ?_) (fun h1 => ?_)
  · have h1 := of_decide_eq_true h1
    have hx := hr _ (getD_mem (l := (w : List Int)) (i := i) (by omega))
    have hs := take_s1 (f := (w : List Int)) (n := i) (by omega)
    have hst : keptL ((w : List Int).take (i + 1)) kp = keptL ((w : List Int).take i) kp ++ (if (kp : List Bool).getD ((w : List Int).getD i 0).toNat false = true then [(w : List Int).getD i 0] else []) := by
      rw [hs]
      unfold keptL
      rw [List.filter_append, List.filter_cons]; rfl
    rw [show w64 ((i : Int) + 1) = ((i + 1 : Nat) : Int) from wN (by omega) (by omega)]
    refine ⟨⟨by omega, by omega⟩, hx, brB_intro (fun h2 => ?_) (fun h2 => ?_)⟩
    · rw [if_pos (show (kp : List Bool).getD ((w : List Int).getD i 0).toNat false = true from h2)] at hst
      rw [← hst]
      exact ⟨⟨by omega, by omega⟩, by omega, i + 1, [(16, 448)], by omega, by omega, rfl, rfl⟩
    · have h2 : (kp : List Bool).getD ((w : List Int).getD i 0).toNat false = false := h2
      rw [if_neg (by rw [h2]; decide), List.append_nil] at hst
      refine ⟨i + 1, [(16, 16)], by omega, by omega, rfl, ?_⟩
      rw [hst]; rfl
  · have h1 := of_decide_eq_false h1
    rw [List.take_of_length_le (by omega)] at *
    exact ⟨by omega, retN [480] rfl hK⟩
def c_l01Some : Ctr Try.prog := ⟨115, ent Try.func115 rfl rfl, [], sp_l01Some, good_l01Some, []⟩
@[go_sem] theorem c_l01Some_f : c_l01Some.f = 115 := rfl
@[go_sem] theorem c_l01Some_ms : c_l01Some.ms = [] := rfl
@[go_sem] theorem c_l01Some_sp : c_l01Some.spec = sp_l01Some := rfl
@[go_sem] theorem c_l01Some_fz : c_l01Some.fz = [] := rfl
attribute [go_sem] sp_l01Some
theorem kept_kr {w : List Int} {n c : Nat} (hn : n < 7) (hc : c < 2 ^ n) (h64 : 2 ^ n ≤ 64) (hr : ∀ x ∈ w, 0 ≤ x ∧ x < (n : Int)) : Go.Proofs.Ytihfncjpfgdhoaa.K.normalL (keptL w (keepL (2 ^ n - 1 - c) n)) = kr w c := by
  unfold kr keptL
  congr 1
  refine List.filter_congr fun x hx => ?_
  have h := hr x hx
  have hk := congrFun (keep_get (c := 2 ^ n - 1 - c) (n := n) hn (by omega)) x.toNat
  rw [hk]
  exact bit_flip n hn c (by omega) hc x.toNat (by omega) (by omega)
theorem none_get (n : Nat) : (fun i => (List.replicate n false).getD i false) = fun _ => false := by
  funext i; exact gD_rep _ _ _
def sp_l05W2 : List Cv → List Obj' → Tree
  | [.one (.ro (.int .i64) w), .one (.v (.int .i64 k))], [] => .need (isW w = true ∧ k = 2) (.ret (ow 0) [rwi (trimL (frW w (2 ^ (w.length / 2))))])
  | _, _ => .fail
set_option maxHeartbeats 4000000 in
set_option maxRecDepth 100000 in
theorem good_l05W2 : Good Try.prog 86 sp_l05W2 := by
  refine good_ofF Try.func86 rfl _ rfl _ rfl (tab [c_l05Power, c_circlesS, c_l05None, c_l03Keep, c_l01Some, c_l05Size, c_l05Plus]) (fun X cs os0 K hok hos hK => ?_)
  clear hos; unfold sp_l05W2 at hK
  split at hK
  case h_2 => exact hK.elim
  rename_i w k
  refine ⟨by simp, by simp, ?_⟩
  simp only [go_sem] at hK hok
  simp (maxSteps := 4000000) only [go_sem, Try.f86, ↓brB_t, ↓brB_f, Nat.reduceAdd, Int.reduceLE, Int.reduceLT, Int.reduceNeg, decide_true, decide_false, Bool.and_self, Nat.succ_eq_add_one, Int.toNat_natCast, Nat.beq_refl, Bool.and_true, Bool.true_and, Bool.false_or, Bool.or_true, List.all_cons, List.all_nil, Nat.reduceMul, Nat.add_zero, Nat.zero_add, List.length_nil, List.length_cons, dite_true, List.nil_append, Nat.reduceBEq, reduceDIte, reduceIte, reduceCtorEq, Bool.or_false, Bool.true_or, Bool.and_false, Bool.false_and, Bool.not_true, Bool.not_false, Option.isSome_some, Option.isSome_none, Option.getD_some, List.getElem?_cons_zero, List.getElem?_cons_succ, eq_self, and_self, List.take_succ_cons, List.take_zero, List.drop_succ_cons, List.drop_zero]
  obtain ⟨⟨hw, rfl⟩, hK⟩ := hK
  clear hok
  obtain ⟨w1, w2⟩ := Go.Proofs.Ytihfncjpfgdhoaa.L.word_range hw
  obtain ⟨n, hW⟩ := Go.Proofs.Ytihfncjpfgdhoaa.L.word_of w hw
  have hn := hW.len
  have hn2 : w.length / 2 = n := by omega
  rw [hn2] at hK w2
  have hpn := pow_n n (by omega)
  have h0 : trimL (frW w 0) = [] := trim_eq (g := []) fun i => by rw [frW, accL, gD_rep]; rfl
  have habs := acc_abs (M := w.length / 2 + 2) (cs := frC w) (val := sgn2) sgn2_abs (fun c => by unfold frC; omega)
  have h64 := hpn.1
  refine ⟨by decide, trivial, brB_intro (fun h => absurd h (by decide)) (fun _ => brB_intro (fun h => absurd h (by decide)) (fun _ => brB_intro (fun _ => ?_) (fun h => absurd h (by decide))))⟩
  rw [half (by omega), hn2, u64_lt n (by omega), hpn.2]
  clear hpn
  refine loop_okF (T := tab [c_l05Power, c_circlesS, c_l05None, c_l03Keep, c_l01Some, c_l05Size, c_l05Plus]) [0, 5, 6, 7, 9] [(16, 256)] (fun c : Nat => ⟨86, [(0, ri w), (5, vi n), (6, ow 16), (7, vi (2 ^ n : Nat)), (9, vi c)], [(16, rwi (trimL (frW w c)))]⟩)
    (fun c => c ≤ 2 ^ n) (fun c => 2 ^ n - c) 0 rfl (by rw [h0]; rfl) (Nat.zero_le _) (fun c hc => ?_)
  simp only [go_sem, ↓brB_t, ↓brB_f, Nat.reduceAdd, Int.reduceLE, Int.reduceLT, Int.reduceNeg, decide_true, decide_false, Bool.and_self, Nat.succ_eq_add_one, Int.toNat_natCast, Nat.beq_refl, Bool.and_true, Bool.true_and, Bool.false_or, Bool.or_true, List.all_cons, List.all_nil, Nat.reduceMul, Nat.add_zero, Nat.zero_add, List.length_nil, List.length_cons, dite_true, List.nil_append, Nat.reduceBEq, reduceDIte, reduceIte, reduceCtorEq, Bool.or_false, Bool.true_or, Bool.and_false, Bool.false_and, Bool.not_true, Bool.not_false, Option.isSome_some, Option.isSome_none, Option.getD_some, List.getElem?_cons_zero, List.getElem?_cons_succ, eq_self, and_self, List.take_succ_cons, List.take_zero, List.drop_succ_cons, List.drop_zero]
  refine brB_intro (fun h1 => ?_) (fun h1 => ?_)
  · have h1 := of_decide_eq_true h1
    have e1 : w64 (w64 (((2 ^ n : Nat) : Int) - 1) - (c : Int)) = ((2 ^ n - 1 - c : Nat) : Int) := by
      rw [show w64 (((2 ^ n : Nat) : Int) - 1) = ((2 ^ n - 1 : Nat) : Int) from wN (by omega) (by omega)]
      exact wN (by omega) (by omega)
    rw [e1]
    simp only [Int.toNat_natCast]
    rw [kept_kr (by omega) (by omega) h64 w2]
    have hfc := frC_eq (c := c) hw hW w2
    have hpn := pop_n n (by omega) c (by omega) (by omega)
    rw [hpn] at hfc
    have hcp := circ_pos (kr w c) (fun _ => false)
    have hrl := kr_len (c := c) hW w2
    have hkr : isW (kr w c) = true := filter_isW _ hw
    have hkk := (Go.Proofs.Ytihfncjpfgdhoaa.L.word_range hkr).1
    have hp6 := pop_le c (by omega) 6 (by omega)
    have hkl := keep_len (2 ^ n - 1 - c) n
    have hsv : w64 (1 - w64 (2 * ((popTo 6 c : Nat) : Int).tmod 2)) = sgn2 c := by
      rw [show ((popTo 6 c : Nat) : Int).tmod 2 = ((popTo 6 c % 2 : Nat) : Int) from tN (popTo 6 c) 2, w64_id (x := 2 * ((popTo 6 c % 2 : Nat) : Int)) (by omega) (by omega), w64_id (by omega) (by omega)]; rfl
    have hsg := sgn2_abs c
    have hci : circ (kr w c) (fun _ => false) ≤ 100 := by omega
    have e2 : w64 (((popTo 6 c : Nat) : Int) + ((circ (kr w c) (fun _ => false) : Nat) : Int)) = ((popTo 6 c + circ (kr w c) (fun _ => false) : Nat) : Int) := wN (by omega) (by omega)
    have e3 : w64 (((popTo 6 c + circ (kr w c) (fun _ => false) : Nat) : Int) - 1) = ((frC w c : Nat) : Int) := wN (by rw [hfc.1]; omega) (by omega)
    have hpp : trimL (plusL (trimL (frW w c)) (powL (frC w c)) (sgn2 c)) = trimL (frW w (c + 1)) := plus_pow _ fun j => acc_get (M := w.length / 2 + 2) (cs := frC w) (val := sgn2) (by omega) j
    have hsz : (frW w c).length = w.length / 2 + 2 := acc_len _ _ _ _
    have htl := trim_len (frW w c)
    rw [hsv, none_get, e2, e3, Int.toNat_natCast, hpp, hkl, show w64 ((c : Int) + 1) = ((c + 1 : Nat) : Int) from wN (by omega) (by omega)]
    refine ⟨⟨⟨by omega, by omega⟩, by omega, by omega⟩, ⟨by omega, w2⟩, ⟨by omega, by omega⟩, by omega, ⟨hkr, by rw [List.length_replicate]; omega⟩, ⟨⟨by omega, by omega⟩, trivial⟩, ⟨by omega, by omega⟩, by decide, ⟨⟨by omega, ?_⟩, fun i => ?_, fun i => ?_⟩, c + 1, [(16, 1360)], by omega, by omega, rfl, rfl⟩
    · rw [powL, List.length_append, List.length_replicate]; show frC w c + 1 ≤ _; omega
    · have hab := habs c i
      rw [trim_get]
      exact ⟨Int.le_trans (show (-1048576 : Int) ≤ -(c : Int) by omega) hab.1, Int.le_trans hab.2 (show (c : Int) ≤ 1048576 by omega)⟩
    · rw [powL_get]
      split
      · rw [Int.mul_one]; omega
      · rw [Int.mul_zero]; omega
  · have h1 := of_decide_eq_false h1
    have e : c = 2 ^ n := by omega
    subst e
    exact retN [16] rfl hK
def c_l05W2 : Ctr Try.prog := ⟨86, ent Try.func86 rfl rfl, [], sp_l05W2, good_l05W2, []⟩
@[go_sem] theorem c_l05W2_f : c_l05W2.f = 86 := rfl
@[go_sem] theorem c_l05W2_ms : c_l05W2.ms = [] := rfl
@[go_sem] theorem c_l05W2_sp : c_l05W2.spec = sp_l05W2 := rfl
@[go_sem] theorem c_l05W2_fz : c_l05W2.fz = [] := rfl
attribute [go_sem] sp_l05W2
/-! ### FreeWeight -/
def sp_weight2 : List Cv → List Obj' → Tree
  | [.one (.ro (.int .i64) w), .one (.v (.int .i64 k))], [] => .need (isW w = true ∧ k = 2) (.ret (ow 0) [rwi (trimL (frW w (2 ^ (w.length / 2))))])
  | _, _ => .fail
set_option maxHeartbeats 4000000 in
set_option maxRecDepth 100000 in
theorem good_weight2 : Good Try.prog 88 sp_weight2 := by
  refine good_ofF Try.func88 rfl _ rfl _ rfl (tab [c_free]) (fun X cs os0 K hok hos hK => ?_)
  clear hos; unfold sp_weight2 at hK
  split at hK
  case h_2 => exact hK.elim
  rename_i w k
  refine ⟨by simp, by simp, ?_⟩
  simp only [go_sem] at hK hok
  simp (maxSteps := 4000000) only [go_sem, Try.f88, ↓brB_t, ↓brB_f, Nat.reduceAdd, Int.reduceLE, Int.reduceLT, Int.reduceNeg, decide_true, decide_false, Bool.and_self, Nat.succ_eq_add_one, Int.toNat_natCast, Nat.beq_refl, Bool.and_true, Bool.true_and, Bool.false_or, Bool.or_true, List.all_cons, List.all_nil, Nat.reduceMul, Nat.add_zero, Nat.zero_add, List.length_nil, List.length_cons, dite_true, List.nil_append, Nat.reduceBEq, reduceDIte, reduceIte, reduceCtorEq, Bool.or_false, Bool.true_or, Bool.and_false, Bool.false_and, Bool.not_true, Bool.not_false, Option.isSome_some, Option.isSome_none, Option.getD_some, List.getElem?_cons_zero, List.getElem?_cons_succ, eq_self, and_self, List.take_succ_cons, List.take_zero, List.drop_succ_cons, List.drop_zero]
  obtain ⟨⟨hw, rfl⟩, hK⟩ := hK
  clear hok
  refine brB_intro (fun h => absurd h (by decide)) (fun _ => brB_intro (fun h => absurd h (by decide)) (fun _ => brB_intro (fun _ => ?_) (fun h => absurd h (by decide))))
  exact ⟨hw, retN [432] rfl hK⟩
def c_weight2 : Ctr Try.prog := ⟨88, ent Try.func88 rfl rfl, [], sp_weight2, good_weight2, []⟩
@[go_sem] theorem c_weight2_f : c_weight2.f = 88 := rfl
@[go_sem] theorem c_weight2_ms : c_weight2.ms = [] := rfl
@[go_sem] theorem c_weight2_sp : c_weight2.spec = sp_weight2 := rfl
@[go_sem] theorem c_weight2_fz : c_weight2.fz = [] := rfl
attribute [go_sem] sp_weight2
def freeR (w : List Int) : List Int × Int := if isW w then (trimL (frW w (2 ^ (w.length / 2))), 0) else ([], 1)
theorem free1 {w : List Int} (h : isW w = false) : freeR w = ([], 1) := by rw [freeR, h]; rfl
theorem free0 {w : List Int} (h : isW w = true) : freeR w = (trimL (frW w (2 ^ (w.length / 2))), 0) := by rw [freeR, h]; rfl
theorem freeR_len (w : List Int) : (freeR w).1.length ≤ 1048576 := by
  unfold freeR
  split
  · rename_i g
    have w1 := (Go.Proofs.Ytihfncjpfgdhoaa.L.word_range g).1
    have := trim_len (frW w (2 ^ (w.length / 2)))
    rw [frW, acc_len] at this
    show (trimL (frW w (2 ^ (w.length / 2)))).length ≤ _
    rw [frW]; omega
  · exact Nat.zero_le _
def sp_kind2 : List Cv → List Obj' → Tree
  | [.one (.ro (.int .i64) w), .one (.v (.int .i64 k))], [] => .need (k = 2) (resL (freeR w))
  | _, _ => .fail
set_option maxHeartbeats 4000000 in
set_option maxRecDepth 100000 in
theorem good_kind2 : Good Try.prog 47 sp_kind2 := by
  refine good_ofF Try.func47 rfl _ rfl _ rfl (tab [c_IsWord, c_kindOk, c_weight2]) (fun X cs os0 K hok hos hK => ?_)
  clear hos; unfold sp_kind2 at hK
  split at hK
  case h_2 => exact hK.elim
  rename_i w k
  refine ⟨by simp, by simp, ?_⟩
  simp only [go_sem] at hK hok
  simp (maxSteps := 4000000) only [go_sem, Try.f47, ↓brB_t, ↓brB_f, Nat.reduceAdd, Int.reduceLE, Int.reduceLT, Int.reduceNeg, decide_true, decide_false, Bool.and_self, Nat.succ_eq_add_one, Int.toNat_natCast, Nat.beq_refl, Bool.and_true, Bool.true_and, Bool.false_or, Bool.or_true, List.all_cons, List.all_nil, Nat.reduceMul, Nat.add_zero, Nat.zero_add, List.length_nil, List.length_cons, dite_true, List.nil_append, Nat.reduceBEq, reduceDIte, reduceIte, reduceCtorEq, Bool.or_false, Bool.true_or, Bool.and_false, Bool.false_and, Bool.not_true, Bool.not_false, Option.isSome_some, Option.isSome_none, Option.getD_some, List.getElem?_cons_zero, List.getElem?_cons_succ, eq_self, and_self, List.take_succ_cons, List.take_zero, List.drop_succ_cons, List.drop_zero]
  obtain ⟨rfl, hK⟩ := hK
  clear hok
  refine brB_intro (fun h1 => retM [⟨.reg 4 0, 16, 2, .int .i64⟩] rfl (retN [16] rfl (by rw [free1 (nb h1)] at hK; exact hK))) (fun h1 => brB_intro (fun h2 => absurd h2 (by decide)) (fun _ => ?_))
  rw [free0 (nb' h1)] at hK
  exact ⟨⟨nb' h1, rfl⟩, retN [272] rfl hK⟩
def c_kind2 : Ctr Try.prog := ⟨47, ent Try.func47 rfl rfl, [], sp_kind2, good_kind2, []⟩
@[go_sem] theorem c_kind2_f : c_kind2.f = 47 := rfl
@[go_sem] theorem c_kind2_ms : c_kind2.ms = [] := rfl
@[go_sem] theorem c_kind2_sp : c_kind2.spec = sp_kind2 := rfl
@[go_sem] theorem c_kind2_fz : c_kind2.fz = [] := rfl
attribute [go_sem] sp_kind2
def sp_freeW : List Cv → List Obj' → Tree
  | [.one (.ro (.int .i64) w)], [] => resL (freeR w)
  | _, _ => .fail
set_option maxHeartbeats 4000000 in
set_option maxRecDepth 100000 in
theorem good_freeI : Good Try.prog 43 sp_freeW := by
  refine good_ofF Try.func43 rfl _ rfl _ rfl (tab [c_kind2]) (fun X cs os0 K hok hos hK => ?_)
  clear hos; unfold sp_freeW at hK
  split at hK
  case h_2 => exact hK.elim
  rename_i w
  refine ⟨by simp, by simp, ?_⟩
  simp only [go_sem] at hK hok
  simp (maxSteps := 4000000) only [go_sem, Try.f43, ↓brB_t, ↓brB_f, Nat.reduceAdd, Int.reduceLE, Int.reduceLT, Int.reduceNeg, decide_true, decide_false, Bool.and_self, Nat.succ_eq_add_one, Int.toNat_natCast, Nat.beq_refl, Bool.and_true, Bool.true_and, Bool.false_or, Bool.or_true, List.all_cons, List.all_nil, Nat.reduceMul, Nat.add_zero, Nat.zero_add, List.length_nil, List.length_cons, dite_true, List.nil_append, Nat.reduceBEq, reduceDIte, reduceIte, reduceCtorEq, Bool.or_false, Bool.true_or, Bool.and_false, Bool.false_and, Bool.not_true, Bool.not_false, Option.isSome_some, Option.isSome_none, Option.getD_some, List.getElem?_cons_zero, List.getElem?_cons_succ, eq_self, and_self, List.take_succ_cons, List.take_zero, List.drop_succ_cons, List.drop_zero]
  exact ⟨trivial, retN [96] rfl hK⟩
def c_freeI : Ctr Try.prog := ⟨43, ent Try.func43 rfl rfl, [], sp_freeW, good_freeI, []⟩
@[go_sem] theorem c_freeI_f : c_freeI.f = 43 := rfl
@[go_sem] theorem c_freeI_ms : c_freeI.ms = [] := rfl
@[go_sem] theorem c_freeI_sp : c_freeI.spec = sp_freeW := rfl
@[go_sem] theorem c_freeI_fz : c_freeI.fz = [] := rfl
attribute [go_sem] sp_freeW
set_option maxHeartbeats 4000000 in
set_option maxRecDepth 100000 in
theorem good_freeS : Good Try.prog 42 sp_freeW := by
  refine good_ofF Try.func42 rfl _ rfl _ rfl (tab [c_l01Is, c_l05W2]) (fun X cs os0 K hok hos hK => ?_)
  clear hos; unfold sp_freeW at hK
  split at hK
  case h_2 => exact hK.elim
  rename_i w
  refine ⟨by simp, by simp, ?_⟩
  simp only [go_sem] at hK hok
  simp (maxSteps := 4000000) only [go_sem, Try.f42, ↓brB_t, ↓brB_f, Nat.reduceAdd, Int.reduceLE, Int.reduceLT, Int.reduceNeg, decide_true, decide_false, Bool.and_self, Nat.succ_eq_add_one, Int.toNat_natCast, Nat.beq_refl, Bool.and_true, Bool.true_and, Bool.false_or, Bool.or_true, List.all_cons, List.all_nil, Nat.reduceMul, Nat.add_zero, Nat.zero_add, List.length_nil, List.length_cons, dite_true, List.nil_append, Nat.reduceBEq, reduceDIte, reduceIte, reduceCtorEq, Bool.or_false, Bool.true_or, Bool.and_false, Bool.false_and, Bool.not_true, Bool.not_false, Option.isSome_some, Option.isSome_none, Option.getD_some, List.getElem?_cons_zero, List.getElem?_cons_succ, eq_self, and_self, List.take_succ_cons, List.take_zero, List.drop_succ_cons, List.drop_zero]
  clear hok
  refine brB_intro (fun h1 => retM [⟨.reg 2 0, 16, 2, .int .i64⟩] rfl (retN [16] rfl (by rw [free1 (nb h1)] at hK; exact hK))) (fun h1 => ?_)
  rw [free0 (nb' h1)] at hK
  exact ⟨⟨nb' h1, trivial⟩, retN [144] rfl hK⟩
def c_freeS : Ctr Try.prog := ⟨42, ent Try.func42 rfl rfl, [], sp_freeW, good_freeS, []⟩
@[go_sem] theorem c_freeS_f : c_freeS.f = 42 := rfl
@[go_sem] theorem c_freeS_ms : c_freeS.ms = [] := rfl
@[go_sem] theorem c_freeS_sp : c_freeS.spec = sp_freeW := rfl
@[go_sem] theorem c_freeS_fz : c_freeS.fz = [] := rfl
attribute [go_sem] sp_freeW
set_option maxHeartbeats 4000000 in
set_option maxRecDepth 100000 in
theorem good_lawFreeWeight : Good Try.prog 12 sp_lawL := by
  refine good_ofF Try.func12 rfl _ rfl _ rfl (tab [c_to, c_freeS, c_freeI, c_eqS, c_mark, c_held]) (fun X cs os0 K hok hos hK => ?_)
  clear hos; unfold sp_lawL at hK
  split at hK
  case h_2 => exact hK.elim
  rename_i w
  refine ⟨by simp, by simp, ?_⟩
  simp only [go_sem] at hK hok
  simp (maxSteps := 4000000) only [go_sem, Try.f12, ↓brB_t, ↓brB_f, Nat.reduceAdd, Int.reduceLE, Int.reduceLT, Int.reduceNeg, decide_true, decide_false, Bool.and_self, Nat.succ_eq_add_one, Int.toNat_natCast, Nat.beq_refl, Bool.and_true, Bool.true_and, Bool.false_or, Bool.or_true, List.all_cons, List.all_nil, Nat.reduceMul, Nat.add_zero, Nat.zero_add, List.length_nil, List.length_cons, dite_true, List.nil_append, Nat.reduceBEq, reduceDIte, reduceIte, reduceCtorEq, Bool.or_false, Bool.true_or, Bool.and_false, Bool.false_and, Bool.not_true, Bool.not_false, Option.isSome_some, Option.isSome_none, Option.getD_some, List.getElem?_cons_zero, List.getElem?_cons_succ, eq_self, and_self, List.take_succ_cons, List.take_zero, List.drop_succ_cons, List.drop_zero]
  have hr := freeR_len w
  generalize freeR w = r at *
  clear hok
  refine brB_intro (fun _ => ret0 hK) (fun h1 => ?_)
  have h1 := of_decide_eq_false h1
  exact ⟨by omega, by omega, by omega, ⟨trivial, trivial, by omega⟩, brB_intro (fun h2 => by have := of_decide_eq_true h2; omega) (fun _ => ⟨⟨trivial, trivial, by omega⟩, ⟨trivial, trivial, by omega⟩, brB_intro (fun h2 => by have := of_decide_eq_true h2; omega) (fun _ => ⟨by omega, ⟨trivial, trivial, by omega⟩, brB_intro (fun h2 => by have := of_decide_eq_true h2; omega) (fun _ => ret0 hK)⟩)⟩)⟩
end Go.Proofs.Ytihfncjpfgdhoaa.V
