/- Contracts: words of some chords, by both sides. Conditions: told by each spec. -/
import Derived.Test.YtbnmjhcokdhjmaaVU3
set_option linter.unusedVariables false
set_option linter.unusedSimpArgs false
namespace Go.Proofs.Ytbnmjhcokdhjmaa.V
open Go
/-! ### WordOfChords -/
def ascB (n : Nat) (l : List Int) (i : Nat) : Bool := inB (l.getD i 0) 0 ((n : Int) - 1) && (decide (i = 0) || decide (l.getD (i - 1) 0 < l.getD i 0))
def someB (n : Nat) (l : List Int) : Bool := (List.range l.length).all (ascB n l)
/-- Which numbers below n are in a list. -/
def mkL (n : Nat) (s : List Int) : List Bool := (List.range n).map fun j : Nat => decide ((j : Int) ∈ s)
theorem mkL_len (n : Nat) (s : List Int) : (mkL n s).length = n := by rw [mkL, List.length_map, List.length_range]
theorem mkL_get {n : Nat} {s : List Int} {j : Nat} (h : j < n) : (mkL n s).getD j false = decide ((j : Int) ∈ s) := by
  rw [mkL, List.getD_eq_getElem?_getD, List.getElem?_map, List.getElem?_range h]; rfl
theorem mkL_nil (n : Nat) : List.replicate n false = mkL n [] := by
  refine List.ext_getElem (by rw [mkL_len, List.length_replicate]) (fun j h1 h2 => ?_)
  simp [mkL]
theorem mkL_set {n : Nat} {s : List Int} {x : Int} (h0 : 0 ≤ x) (h1 : x < (n : Int)) : (mkL n s).set x.toNat true = mkL n (s ++ [x]) := by
  refine List.ext_getElem (by rw [List.length_set, mkL_len, mkL_len]) (fun j h2 h3 => ?_)
  rw [mkL_len] at h3
  rw [List.getElem_set]
  simp only [mkL, List.getElem_map, List.getElem_range, List.mem_append, List.mem_singleton]
  split
  · rename_i e
    rw [decide_eq_true (Or.inr (show (j : Int) = x by omega))]
  · rename_i e
    rw [decide_eq_decide]
    exact ⟨.inl, fun h => h.resolve_right (by omega)⟩
theorem mkL_kept {w s : List Int} {n : Nat} (hw : ∀ x ∈ w, 0 ≤ x ∧ x < (n : Int)) : keptL w (mkL n s) = w.filter fun x => decide (x ∈ s) := by
  unfold keptL
  refine List.filter_congr fun x hx => ?_
  have := hw x hx
  rw [mkL_get (by omega), show ((x.toNat : Nat) : Int) = x by omega]
def sp_someOk : List Cv → List Obj' → Tree
  | [.one (.ro (.int .i64) w), .one (.ro (.int .i64) l)], [] => .need ((w : List Int).length ≤ 1000 ∧ (l : List Int).length ≤ 1000) (.ret (vb (someB (w.length / 2) l)) [])
  | _, _ => .fail
set_option maxHeartbeats 4000000 in
set_option maxRecDepth 100000 in
theorem good_someOk : Good Try.prog 75 sp_someOk := by
  refine good_ofF Try.func75 rfl _ rfl _ rfl (tab [c_isCh]) (fun X cs os0 K hok hos hK => ?_)
  clear hos; unfold sp_someOk at hK
  split at hK
  case h_2 => exact hK.elim
  rename_i w l
  refine ⟨by simp, by simp, ?_⟩
  simp only [go_sem] at hK hok
  simp (maxSteps := 4000000) only [go_sem, Try.f75, ↓brB_t, ↓brB_f, Nat.reduceAdd, Int.reduceLE, Int.reduceLT, Int.reduceNeg, decide_true, decide_false, Bool.and_self, Nat.succ_eq_add_one, Int.toNat_natCast, Nat.beq_refl, Bool.and_true, Bool.true_and, Bool.false_or, Bool.or_true, List.all_cons, List.all_nil, Nat.reduceMul, Nat.add_zero, Nat.zero_add, List.length_nil, List.length_cons, dite_true, List.nil_append, Nat.reduceBEq, reduceDIte, reduceIte, reduceCtorEq, Bool.or_false, Bool.true_or, Bool.and_false, Bool.false_and, Bool.not_true, Bool.not_false, Option.isSome_some, Option.isSome_none, Option.getD_some, List.getElem?_cons_zero, List.getElem?_cons_succ, eq_self, and_self, List.take_succ_cons, List.take_zero, List.drop_succ_cons, List.drop_zero]
  obtain ⟨⟨h1, h2⟩, hK⟩ := hK
  clear hok
  generalize hn : w.length / 2 = n at *
  refine loop_okF (T := tab [c_isCh]) [0, 1, 7, 8, 9] [] (fun i : Nat => ⟨32, [(0, ri w), (1, ri l), (7, ri l), (8, vi (l.length : Nat)), (9, vi i)], []⟩)
    (fun i => i ≤ l.length ∧ (List.range i).all (ascB n l) = true) (fun i => l.length - i) 0 rfl rfl ⟨Nat.zero_le _, rfl⟩ (fun i hi => ?_)
  obtain ⟨hi, ht⟩ := hi
  simp only [go_sem, ↓brB_t, ↓brB_f, Nat.reduceAdd, Int.reduceLE, Int.reduceLT, Int.reduceNeg, decide_true, decide_false, Bool.and_self, Nat.succ_eq_add_one, Int.toNat_natCast, Nat.beq_refl, Bool.and_true, Bool.true_and, Bool.false_or, Bool.or_true, List.all_cons, List.all_nil, Nat.reduceMul, Nat.add_zero, Nat.zero_add, List.length_nil, List.length_cons, dite_true, List.nil_append, Nat.reduceBEq, reduceDIte, reduceIte, reduceCtorEq, Bool.or_false, Bool.true_or, Bool.and_false, Bool.false_and, Bool.not_true, Bool.not_false, Option.isSome_some, Option.isSome_none, Option.getD_some, List.getElem?_cons_zero, List.getElem?_cons_succ, eq_self, and_self, List.take_succ_cons, List.take_zero, List.drop_succ_cons, List.drop_zero]
  rw [hn]
  refine brB_intro (fun h3 => ?_) (fun h3 => ret0 ?_)
  · have h3 := of_decide_eq_true h3
    have e1 : i = 0 ∨ w64 ((i : Int) - 1) = ((i - 1 : Nat) : Int) := by
      rcases Nat.eq_zero_or_pos i with h | h
      · exact .inl h
      · refine .inr ?_
        rw [w64_id (by omega) (by omega)]; omega
    rw [show w64 ((i : Int) + 1) = ((i + 1 : Nat) : Int) from w64_s (n := l.length) (by omega) (by omega)]
    refine ⟨⟨by omega, by omega⟩, h1, brB_intro (fun h4 => ret0 ?_) (fun h4 => brB_intro (fun h5 => ?_) (fun h5 => ?_))⟩
    · rw [someB, range_n (i := i) (by omega) (by rw [ascB, nb h4]; rfl)] at hK; exact hK
    · have h5 := of_decide_eq_true h5
      rw [e1.resolve_left (by omega), Int.toNat_natCast]
      refine ⟨⟨by omega, by omega⟩, brB_intro (fun h6 => ret0 ?_) (fun h6 => ⟨i + 1, [], ⟨by omega, range_s ht ?_⟩, by omega, rfl, rfl⟩)⟩
      · have h6 : (l : List Int).getD i 0 ≤ (l : List Int).getD (i - 1) 0 := of_decide_eq_true h6
        rw [someB, range_n (i := i) (by omega) (by rw [ascB, decide_eq_false (by omega : ¬ i = 0), decide_eq_false (Int.not_lt.2 h6)]; simp)] at hK; exact hK
      · have h6 : ¬ (l : List Int).getD i 0 ≤ (l : List Int).getD (i - 1) 0 := of_decide_eq_false h6
        rw [ascB, nb' h4, decide_eq_true (Int.not_le.1 h6)]; simp
    · have h5 := of_decide_eq_false h5
      refine ⟨i + 1, [], ⟨by omega, range_s ht ?_⟩, by omega, rfl, rfl⟩
      rw [ascB, nb' h4, decide_eq_true (by omega : i = 0)]; simp
  · have h3 := of_decide_eq_false h3
    have e : i = l.length := by omega
    subst e
    rw [someB, ht] at hK; exact hK
def c_someOk : Ctr Try.prog := ⟨75, ent Try.func75 rfl rfl, [], sp_someOk, good_someOk, []⟩
@[go_sem] theorem c_someOk_f : c_someOk.f = 75 := rfl
@[go_sem] theorem c_someOk_ms : c_someOk.ms = [] := rfl
@[go_sem] theorem c_someOk_sp : c_someOk.spec = sp_someOk := rfl
@[go_sem] theorem c_someOk_fz : c_someOk.fz = [] := rfl
attribute [go_sem] sp_someOk
def hasP (ys : HC [.d kR]) (xs : HT [Kn.int .i64]) : Option Bool := some (decide ((xs.1 : Int) ∈ (ys.1 : List Int)))
def sp_wc1 : List Cv → List Obj' → Tree
  | [.one (.v (.int .i64 i)), .one (.elr (.sl 2 (.int .i64)) [l] 0 0)], [] => .ret (vb (decide ((i : Int) ∈ (l : List Int)))) []
  | _, _ => .fail
set_option maxHeartbeats 4000000 in
set_option maxRecDepth 100000 in
theorem good_wc1 : Good Try.prog 77 sp_wc1 := by
  refine good_ofF Try.func77 rfl _ rfl _ rfl (tab [c_has]) (fun X cs os0 K hok hos hK => ?_)
  clear hos; unfold sp_wc1 at hK
  split at hK
  case h_2 => exact hK.elim
  rename_i i l
  refine ⟨by simp, by simp, ?_⟩
  simp only [go_sem] at hK hok
  simp (maxSteps := 4000000) only [go_sem, Try.f77, ↓brB_t, ↓brB_f, Nat.reduceAdd, Int.reduceLE, Int.reduceLT, Int.reduceNeg, decide_true, decide_false, Bool.and_self, Nat.succ_eq_add_one, Int.toNat_natCast, Nat.beq_refl, Bool.and_true, Bool.true_and, Bool.false_or, Bool.or_true, List.all_cons, List.all_nil, Nat.reduceMul, Nat.add_zero, Nat.zero_add, List.length_nil, List.length_cons, dite_true, List.nil_append, Nat.reduceBEq, reduceDIte, reduceIte, reduceCtorEq, Bool.or_false, Bool.true_or, Bool.and_false, Bool.false_and, Bool.not_true, Bool.not_false, Option.isSome_some, Option.isSome_none, Option.getD_some, List.getElem?_cons_zero, List.getElem?_cons_succ, eq_self, and_self, List.take_succ_cons, List.take_zero, List.drop_succ_cons, List.drop_zero]
  exact ret0 hK
def p_wc1 : PFn Try.prog := ⟨77, entB Try.func77 rfl rfl, [.d kR], [.int .i64], .bool, hasP, sp_wc1, good_wc1, fun ys xs y h K hK => by
  unfold hasP at h
  injection h with h; subst h
  exact hK⟩
@[go_sem] theorem p_wc1_f : p_wc1.f = 77 := rfl
@[go_sem] theorem p_wc1_caps (args : List Rv) : (capsM p_wc1.cks args fun ys => .ret (.val (.one (.pf p_wc1.ks p_wc1.r (p_wc1.g ys))))) = capsM [.d kR] args fun ys => .ret (.val (.one (.pf [.int .i64] .bool (hasP ys)))) := rfl
def wcR (w l : List Int) : List Int × Int := if isW w then (if someB (w.length / 2) l then (Go.Proofs.Ytbnmjhcokdhjmaa.K.normalL (w.filter fun x => decide (x ∈ l)), 0) else ([], 2)) else ([], 1)
def sp_woc : List Cv → List Obj' → Tree
  | [.one (.ro (.int .i64) w), .one (.ro (.int .i64) l)], [] => .need ((l : List Int).length ≤ 1000) (resU (wcR w l))
  | _, _ => .fail
set_option maxHeartbeats 4000000 in
set_option maxRecDepth 100000 in
theorem good_wocI : Good Try.prog 19 sp_woc := by
  refine good_ofF Try.func19 rfl _ rfl _ rfl (tab [c_IsWord, c_someOk, c_wordOf] [] [p_wc1]) (fun X cs os0 K hok hos hK => ?_)
  clear hos; unfold sp_woc at hK
  split at hK
  case h_2 => exact hK.elim
  rename_i w l
  refine ⟨by simp, by simp, ?_⟩
  simp only [go_sem] at hK hok
  simp (maxSteps := 4000000) only [go_sem, Try.f19, ↓brB_t, ↓brB_f, Nat.reduceAdd, Int.reduceLE, Int.reduceLT, Int.reduceNeg, decide_true, decide_false, Bool.and_self, Nat.succ_eq_add_one, Int.toNat_natCast, Nat.beq_refl, Bool.and_true, Bool.true_and, Bool.false_or, Bool.or_true, List.all_cons, List.all_nil, Nat.reduceMul, Nat.add_zero, Nat.zero_add, List.length_nil, List.length_cons, dite_true, List.nil_append, Nat.reduceBEq, reduceDIte, reduceIte, reduceCtorEq, Bool.or_false, Bool.true_or, Bool.and_false, Bool.false_and, Bool.not_true, Bool.not_false, Option.isSome_some, Option.isSome_none, Option.getD_some, List.getElem?_cons_zero, List.getElem?_cons_succ, eq_self, and_self, List.take_succ_cons, List.take_zero, List.drop_succ_cons, List.drop_zero]
  obtain ⟨h1, hK⟩ := hK
  clear hok
  have err : ∀ {c : Int}, wcR w l = ([], c) → K (.tup [.one (.own 0), .one (.v (.int .i64 c))]) [rwi []] := fun e => by rw [e] at hK; exact hK
  refine brB_intro (fun h => retM [⟨.reg 4 0, 16, t64, .int .i64⟩] rfl (retN [16] rfl (err (by rw [wcR, if_neg (by rw [nb h]; decide)])))) (fun hw => ?_)
  have hw := nb' hw
  have hl := y_len hw
  refine ⟨⟨by omega, h1⟩, brB_intro (fun h => retM [⟨.reg 4 0, 16, t64, .int .i64⟩] rfl (retN [16] rfl (err (by rw [wcR, if_pos hw, if_neg (by rw [nb h]; decide)])))) (fun h2 => ?_)⟩
  have er : wcR w l = (Go.Proofs.Ytbnmjhcokdhjmaa.K.normalL (w.filter fun x => decide (x ∈ l)), 0) := by rw [wcR, if_pos hw, if_pos (nb' h2)]
  rw [er] at hK
  exact ⟨⟨by omega, fun x hx => rfl⟩, retN [288] rfl hK⟩
def c_wocI : Ctr Try.prog := ⟨19, ent Try.func19 rfl rfl, [], sp_woc, good_wocI, []⟩
@[go_sem] theorem c_wocI_f : c_wocI.f = 19 := rfl
@[go_sem] theorem c_wocI_ms : c_wocI.ms = [] := rfl
@[go_sem] theorem c_wocI_sp : c_wocI.spec = sp_woc := rfl
@[go_sem] theorem c_wocI_fz : c_wocI.fz = [] := rfl
attribute [go_sem] sp_woc
set_option maxHeartbeats 4000000 in
set_option maxRecDepth 100000 in
theorem good_wocS : Good Try.prog 20 sp_woc := by
  refine good_ofF Try.func20 rfl _ rfl _ rfl (tab [c_l01Is, c_l01In, c_l01Some]) (fun X cs os0 K hok hos hK => ?_)
  clear hos; unfold sp_woc at hK
  split at hK
  case h_2 => exact hK.elim
  rename_i w l
  refine ⟨by simp, by simp, ?_⟩
  simp only [go_sem] at hK hok
  simp (maxSteps := 4000000) only [go_sem, Try.f20, ↓brB_t, ↓brB_f, Nat.reduceAdd, Int.reduceLE, Int.reduceLT, Int.reduceNeg, decide_true, decide_false, Bool.and_self, Nat.succ_eq_add_one, Int.toNat_natCast, Nat.beq_refl, Bool.and_true, Bool.true_and, Bool.false_or, Bool.or_true, List.all_cons, List.all_nil, Nat.reduceMul, Nat.add_zero, Nat.zero_add, List.length_nil, List.length_cons, dite_true, List.nil_append, Nat.reduceBEq, reduceDIte, reduceIte, reduceCtorEq, Bool.or_false, Bool.true_or, Bool.and_false, Bool.false_and, Bool.not_true, Bool.not_false, Option.isSome_some, Option.isSome_none, Option.getD_some, List.getElem?_cons_zero, List.getElem?_cons_succ, eq_self, and_self, List.take_succ_cons, List.take_zero, List.drop_succ_cons, List.drop_zero]
  obtain ⟨h1, hK⟩ := hK
  clear hok
  have err : ∀ {c : Int}, wcR w l = ([], c) → K (.tup [.one (.own 0), .one (.v (.int .i64 c))]) [rwi []] := fun e => by rw [e] at hK; exact hK
  refine brB_intro (fun h => retM [⟨.reg 4 0, 16, t64, .int .i64⟩] rfl (retN [16] rfl (err (by rw [wcR, if_neg (by rw [nb h]; decide)])))) (fun hw => ?_)
  have hw := nb' hw
  have hl := y_len hw
  rw [y_half hl, Int.toNat_natCast]
  have hwr := y_range hw
  generalize hn : w.length / 2 = n at *
  rw [mkL_nil]
  refine ⟨by decide, ⟨by omega, by omega, trivial⟩, ?_⟩
  refine loop_okF (T := tab [c_l01Is, c_l01In, c_l01Some]) [0, 1, 6, 7] [(16, 240)] (fun i : Nat => ⟨55, [(0, ri w), (1, ri l), (6, ow 16), (7, vi i)], [(16, .row 4 .bool (mkL n ((l : List Int).take i)))]⟩)
    (fun i => i ≤ l.length ∧ (List.range i).all (ascB n l) = true) (fun i => l.length - i) 0 rfl rfl ⟨Nat.zero_le _, rfl⟩ (fun i hi => ?_)
  obtain ⟨hi, ht⟩ := hi
  simp only [go_sem, ↓brB_t, ↓brB_f, Nat.reduceAdd, Int.reduceLE, Int.reduceLT, Int.reduceNeg, decide_true, decide_false, Bool.and_self, Nat.succ_eq_add_one, Int.toNat_natCast, Nat.beq_refl, Bool.and_true, Bool.true_and, Bool.false_or, Bool.or_true, List.all_cons, List.all_nil, Nat.reduceMul, Nat.add_zero, Nat.zero_add, List.length_nil, List.length_cons, dite_true, List.nil_append, Nat.reduceBEq, reduceDIte, reduceIte, reduceCtorEq, Bool.or_false, Bool.true_or, Bool.and_false, Bool.false_and, Bool.not_true, Bool.not_false, Option.isSome_some, Option.isSome_none, Option.getD_some, List.getElem?_cons_zero, List.getElem?_cons_succ, eq_self, and_self, List.take_succ_cons, List.take_zero, List.drop_succ_cons, List.drop_zero]
  rw [mkL_len, show w64 ((n : Int) - 1) = (n : Int) - 1 from w64_id (by omega) (by omega)]
  have wrong : i < l.length → ascB n l i = false → wcR w l = ([], 2) := fun h h' => by
    rw [wcR, if_pos hw, hn, someB, range_n h h']; rfl
  refine brB_intro (fun h3 => ?_) (fun h3 => ?_)
  · have h3 := of_decide_eq_true h3
    have h3' : i < l.length := by omega
    have e1 : i = 0 ∨ w64 ((i : Int) - 1) = ((i - 1 : Nat) : Int) := by
      rcases Nat.eq_zero_or_pos i with h | h
      · exact .inl h
      · refine .inr ?_
        rw [w64_id (by omega) (by omega)]; omega
    have hts := take_u1 (f := (l : List Int)) h3'
    rw [show w64 ((i : Int) + 1) = ((i + 1 : Nat) : Int) from w64_s (n := l.length) (by omega) (by omega)]
    refine ⟨⟨by omega, by omega⟩, brB_intro (fun h4 => ⟨by kernel_rfl, retM [⟨.reg 4 0, 17, t64, .int .i64⟩] rfl (retN [17] rfl (err (wrong h3' (by rw [ascB, nb h4]; rfl))))⟩) (fun h4 => ?_)⟩
    have h4 := nb' h4
    have hr := inU h4
    have hlt : (l : List Int).getD i 0 < (n : Int) := Int.lt_of_le_sub_one hr.2
    have hset := mkL_set (n := n) (s := (l : List Int).take i) hr.1 hlt
    rw [← hts] at hset
    rw [hset]
    refine brB_intro (fun h5 => ?_) (fun h5 => ?_)
    · have h5 := of_decide_eq_true h5
      rw [e1.resolve_left (by omega), Int.toNat_natCast]
      refine ⟨⟨by omega, by omega⟩, ⟨by omega, by omega⟩, by kernel_rfl, brB_intro (fun h6 => retM [⟨.reg 4 0, 17, t64, .int .i64⟩] rfl (retN [17] rfl (err (wrong h3' (by rw [ascB, decide_eq_false (by omega : ¬ i = 0), decide_eq_false (Int.not_lt.2 (of_decide_eq_true h6))]; simp))))) (fun h6 => ⟨⟨by omega, by omega⟩, ⟨hr.1, hlt⟩, i + 1, [(16, 16)], ⟨by omega, range_s ht ?_⟩, by omega, rfl, rfl⟩)⟩
      have h6 : ¬ (l : List Int).getD i 0 ≤ (l : List Int).getD (i - 1) 0 := of_decide_eq_false h6
      rw [ascB, h4, decide_eq_true (Int.not_le.1 h6)]; simp
    · have h5 := of_decide_eq_false h5
      refine ⟨by kernel_rfl, ⟨by omega, by omega⟩, ⟨hr.1, hlt⟩, i + 1, [(16, 16)], ⟨by omega, range_s ht ?_⟩, by omega, rfl, rfl⟩
      rw [ascB, h4, decide_eq_true (by omega : i = 0)]; simp
  · have h3 := of_decide_eq_false h3
    have e : i = l.length := by omega
    subst e
    have er : wcR w l = (Go.Proofs.Ytbnmjhcokdhjmaa.K.normalL (w.filter fun x => decide (x ∈ l)), 0) := by rw [wcR, if_pos hw, hn, someB, ht]; rfl
    rw [er] at hK
    rw [List.take_length, mkL_kept hwr]
    exact ⟨⟨by omega, hwr⟩, retN [880] rfl hK⟩
def c_wocS : Ctr Try.prog := ⟨20, ent Try.func20 rfl rfl, [], sp_woc, good_wocS, []⟩
@[go_sem] theorem c_wocS_f : c_wocS.f = 20 := rfl
@[go_sem] theorem c_wocS_ms : c_wocS.ms = [] := rfl
@[go_sem] theorem c_wocS_sp : c_wocS.spec = sp_woc := rfl
@[go_sem] theorem c_wocS_fz : c_wocS.fz = [] := rfl
attribute [go_sem] sp_woc
end Go.Proofs.Ytbnmjhcokdhjmaa.V
