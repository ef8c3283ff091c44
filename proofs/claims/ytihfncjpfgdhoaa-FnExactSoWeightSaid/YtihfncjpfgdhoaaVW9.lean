/- Contracts: places, AddKink. Conditions: told by each spec. -/
import Derived.Test.YtihfncjpfgdhoaaVW5
import Derived.Test.YtihfncjpfgdhoaaVL
set_option linter.unusedVariables false
set_option linter.unusedSimpArgs false
namespace Go.Proofs.Ytihfncjpfgdhoaa.V
open Go
def placeB (n : Int) (l : List Int) (i : Nat) : Bool := inB (l.getD i 0) 0 n && (decide (i = 0) || decide (l.getD (i - 1) 0 ≤ l.getD i 0))
def placesB (n : Int) (l : List Int) : Bool := (List.range l.length).all (placeB n l)
def sp_placesOk : List Cv → List Obj' → Tree
  | [.one (.ro (.int .i64) w), .one (.ro (.int .i64) l)], [] => .ret (vb (placesB w.length l)) []
  | _, _ => .fail
theorem range_s {p : Nat → Bool} {i : Nat} (h : (List.range i).all p = true) (hp : p i = true) : (List.range (i + 1)).all p = true := by
  rw [List.range_succ, List.all_append, h]; simp [hp]
theorem range_n {p : Nat → Bool} {i n : Nat} (hi : i < n) (hp : p i = false) : (List.range n).all p = false := by
  rw [← Bool.not_eq_true, List.all_eq_true]
  intro h
  rw [h i (List.mem_range.2 hi)] at hp
  cases hp
set_option maxHeartbeats 4000000 in
set_option maxRecDepth 100000 in
theorem good_placesOk : Good Try.prog 52 sp_placesOk := by
  refine good_ofF Try.func52 rfl _ rfl _ rfl (tab [c_in]) (fun X cs os0 K hok hos hK => ?_)
  clear hos; unfold sp_placesOk at hK
  split at hK
  case h_2 => exact hK.elim
  rename_i w l
  refine ⟨by simp, by simp, ?_⟩
  simp only [go_sem] at hK hok
  simp (maxSteps := 4000000) only [go_sem, Try.f52, ↓brB_t, ↓brB_f, Nat.reduceAdd, Int.reduceLE, Int.reduceLT, Int.reduceNeg, decide_true, decide_false, Bool.and_self, Nat.succ_eq_add_one, Int.toNat_natCast, Nat.beq_refl, Bool.and_true, Bool.true_and, Bool.false_or, Bool.or_true, List.all_cons, List.all_nil, Nat.reduceMul, Nat.add_zero, Nat.zero_add, List.length_nil, List.length_cons, dite_true, List.nil_append, Nat.reduceBEq, reduceDIte, reduceIte, reduceCtorEq, Bool.or_false, Bool.true_or, Bool.and_false, Bool.false_and, Bool.not_true, Bool.not_false, Option.isSome_some, Option.isSome_none, Option.getD_some, List.getElem?_cons_zero, List.getElem?_cons_succ, eq_self, and_self, List.take_succ_cons, List.take_zero, List.drop_succ_cons, List.drop_zero]
  have hl := len_i hok.2.1.1
  refine loop_okF (T := tab [c_in]) [0, 1, 7, 8, 9] [] (fun i : Nat => ⟨33, [(0, ri w), (1, ri l), (7, ri l), (8, vi (l.length : Nat)), (9, vi i)], []⟩)
    (fun i => i ≤ l.length ∧ (List.range i).all (placeB w.length l) = true) (fun i => l.length - i) 0 rfl rfl ⟨Nat.zero_le _, rfl⟩ (fun i hi => ?_)
  obtain ⟨hi, ht⟩ := hi
  simp only [go_sem, ↓brB_t, ↓brB_f, Nat.reduceAdd, Int.reduceLE, Int.reduceLT, Int.reduceNeg, decide_true, decide_false, Bool.and_self, Nat.succ_eq_add_one, Int.toNat_natCast, Nat.beq_refl, Bool.and_true, Bool.true_and, Bool.false_or, Bool.or_true, List.all_cons, List.all_nil, Nat.reduceMul, Nat.add_zero, Nat.zero_add, List.length_nil, List.length_cons, dite_true, List.nil_append, Nat.reduceBEq, reduceDIte, reduceIte, reduceCtorEq, Bool.or_false, Bool.true_or, Bool.and_false, Bool.false_and, Bool.not_true, Bool.not_false, Option.isSome_some, Option.isSome_none, Option.getD_some, List.getElem?_cons_zero, List.getElem?_cons_succ, eq_self, and_self, List.take_succ_cons, List.take_zero, List.drop_succ_cons, List.drop_zero]
  refine brB_intro (fun h1 => ?_) (fun h1 => ret0 ?_)
  · have h1 := of_decide_eq_true h1
    have e1 : i = 0 ∨ w64 ((i : Int) - 1) = ((i - 1 : Nat) : Int) := by
      rcases Nat.eq_zero_or_pos i with h | h
      · exact .inl h
      · refine .inr ?_
        rw [w64_id (by omega) (by omega)]; omega
    refine ⟨⟨by omega, by omega⟩, brB_intro (fun h2 => ret0 ?_) (fun h2 => brB_intro (fun h3 => ?_) (fun h3 => ?_))⟩
    · rw [placesB, range_n (i := i) (by omega) (by rw [placeB, nb h2]; rfl)] at hK; exact hK
    · have h3 := of_decide_eq_true h3
      rw [e1.resolve_left (by omega), Int.toNat_natCast]
      refine ⟨⟨by omega, by omega⟩, brB_intro (fun h4 => ret0 ?_) (fun h4 => ⟨i + 1, [], ⟨by omega, range_s ht ?_⟩, by omega, rfl, ?_⟩)⟩
      · have h4 : (l : List Int).getD i 0 < (l : List Int).getD (i - 1) 0 := of_decide_eq_true h4
        rw [placesB, range_n (i := i) (by omega) (by rw [placeB, decide_eq_false (by omega : ¬ i = 0), decide_eq_false (Int.not_le.2 h4)]; simp)] at hK; exact hK
      · have h4 : ¬ (l : List Int).getD i 0 < (l : List Int).getD (i - 1) 0 := of_decide_eq_false h4
        rw [placeB, nb' h2, decide_eq_true (Int.not_lt.1 h4)]; simp
      · rw [w64_s (n := l.length) (by omega) hl]; rfl
    · have h3 := of_decide_eq_false h3
      refine ⟨i + 1, [], ⟨by omega, range_s ht ?_⟩, by omega, rfl, ?_⟩
      · rw [placeB, nb' h2, decide_eq_true (by omega : i = 0)]; simp
      · rw [w64_s (n := l.length) (by omega) hl]; rfl
  · have h1 := of_decide_eq_false h1
    have e : i = l.length := by omega
    subst e
    rw [placesB, ht] at hK; exact hK
def c_placesOk : Ctr Try.prog := ⟨52, ent Try.func52 rfl rfl, [], sp_placesOk, good_placesOk⟩
@[go_sem] theorem c_placesOk_f : c_placesOk.f = 52 := rfl
@[go_sem] theorem c_placesOk_ms : c_placesOk.ms = [] := rfl
@[go_sem] theorem c_placesOk_sp : c_placesOk.spec = sp_placesOk := rfl
attribute [go_sem] sp_placesOk
theorem firsts_len (l hs : List Int) : (Go.Proofs.Ytihfncjpfgdhoaa.K.firsts l hs).length ≤ l.length := by
  unfold Go.Proofs.Ytihfncjpfgdhoaa.K.firsts
  rw [List.length_map]
  simpa using metBy_length l []
/-- What AddKink gives. -/
def kinkR (w hs ss : List Int) (p h s : Int) : (List Int × List Int × List Int) × Int :=
  if isG w hs ss then (if inB p 0 w.length && (inB h 0 1 && sgn s) then (if ss.length = 6 then (([], [], []), 3) else
    ((Go.Proofs.Ytihfncjpfgdhoaa.K.normalL (Go.Proofs.Ytihfncjpfgdhoaa.K.insL w [(ss.length : Int), ss.length] p.toNat), Go.Proofs.Ytihfncjpfgdhoaa.K.firsts (Go.Proofs.Ytihfncjpfgdhoaa.K.insL w [(ss.length : Int), ss.length] p.toNat) (hs ++ [h]), Go.Proofs.Ytihfncjpfgdhoaa.K.firsts (Go.Proofs.Ytihfncjpfgdhoaa.K.insL w [(ss.length : Int), ss.length] p.toNat) (ss ++ [s])), 0)) else (([], [], []), 2)) else (([], [], []), 1)
def resG (r : (List Int × List Int × List Int) × Int) : Tree := .ret (.tup [.agg [.own 0, .own 1, .own 2], .one (.v (.int .i64 r.2))]) [rwi r.1.1, rwi r.1.2.1, rwi r.1.2.2]
def sp_addKink : List Cv → List Obj' → Tree
  | [.agg [.ro (.int .i64) w, .ro (.int .i64) hs, .ro (.int .i64) ss], .one (.v (.int .i64 p)), .one (.v (.int .i64 h)), .one (.v (.int .i64 s))], [] => resG (kinkR w hs ss p h s)
  | _, _ => .fail
theorem kink1 {w hs ss : List Int} {p h s : Int} (g : isG w hs ss = false) : kinkR w hs ss p h s = (([], [], []), 1) := by rw [kinkR, g]; rfl
theorem kink2 {w hs ss : List Int} {p h s : Int} (g : isG w hs ss = true) (c : (inB p 0 w.length && (inB h 0 1 && sgn s)) = false) : kinkR w hs ss p h s = (([], [], []), 2) := by rw [kinkR, g, c]; rfl
theorem kink3 {w hs ss : List Int} {p h s : Int} (g : isG w hs ss = true) (c : (inB p 0 w.length && (inB h 0 1 && sgn s)) = true) (l : ss.length = 6) : kinkR w hs ss p h s = (([], [], []), 3) := by rw [kinkR, g, c, if_pos l]; rfl
theorem kink0 {w hs ss : List Int} {p h s : Int} (g : isG w hs ss = true) (c : (inB p 0 w.length && (inB h 0 1 && sgn s)) = true) (l : ¬ ss.length = 6) : kinkR w hs ss p h s = ((Go.Proofs.Ytihfncjpfgdhoaa.K.normalL (Go.Proofs.Ytihfncjpfgdhoaa.K.insL w [(ss.length : Int), ss.length] p.toNat), Go.Proofs.Ytihfncjpfgdhoaa.K.firsts (Go.Proofs.Ytihfncjpfgdhoaa.K.insL w [(ss.length : Int), ss.length] p.toNat) (hs ++ [h]), Go.Proofs.Ytihfncjpfgdhoaa.K.firsts (Go.Proofs.Ytihfncjpfgdhoaa.K.insL w [(ss.length : Int), ss.length] p.toNat) (ss ++ [s])), 0) := by rw [kinkR, g, c, if_neg l]; rfl
theorem insL_len {w m : List Int} {i : Nat} (h : i ≤ w.length) : (Go.Proofs.Ytihfncjpfgdhoaa.K.insL w m i).length = w.length + m.length := by
  unfold Go.Proofs.Ytihfncjpfgdhoaa.K.insL
  rw [List.length_append, List.length_append, List.length_take, List.length_drop]; omega
theorem kink_need {w hs ss : List Int} {p h s : Int} (g : isG w hs ss = true) (hp : 0 ≤ p ∧ p ≤ w.length) : (Go.Proofs.Ytihfncjpfgdhoaa.K.insL w [(ss.length : Int), ss.length] p.toNat).length < 1099511627776 ∧ ∀ x ∈ (Go.Proofs.Ytihfncjpfgdhoaa.K.insL w [(ss.length : Int), ss.length] p.toNat), 0 ≤ x ∧ x < ((hs ++ [h]).length : Nat) ∧ x < ((ss ++ [s]).length : Nat) := by
  obtain ⟨g1, g2, g3⟩ := Go.Proofs.Ytihfncjpfgdhoaa.L.gauss_parts g
  obtain ⟨w1, w2⟩ := Go.Proofs.Ytihfncjpfgdhoaa.L.word_range g1
  refine ⟨by rw [insL_len (by omega)]; simp only [List.length_cons, List.length_nil]; omega, fun x hx => ?_⟩
  rw [List.length_append, List.length_append, List.length_singleton, List.length_singleton]
  rcases insL_mem hx with h | h
  · have := w2 x h; omega
  · simp only [List.mem_cons, List.not_mem_nil, or_false, or_self] at h; omega
theorem inB_t {x a b : Int} (h : inB x a b = true) : a ≤ x ∧ x ≤ b := by simpa [inB] using h
theorem sgn_f {s : Int} (h1 : decide (s = 1) = false) (h2 : decide (s = -1) = false) : sgn s = false := by
  have h1 := of_decide_eq_false h1
  have h2 := of_decide_eq_false h2
  rw [sgn, decide_eq_false]; omega
theorem sgn_1 {s : Int} (h1 : decide (s = 1) = true) : sgn s = true := decide_eq_true (.inl (of_decide_eq_true h1))
theorem sgn_2 {s : Int} (h1 : decide (s = -1) = true) : sgn s = true := decide_eq_true (.inr (of_decide_eq_true h1))
set_option maxHeartbeats 4000000 in
set_option maxRecDepth 100000 in
theorem good_addKinkS : Good Try.prog 36 sp_addKink := by
  refine good_ofF Try.func36 rfl _ rfl _ rfl (tab [c_l07Is, c_l01In, c_l07Insert, c_own, c_l07Normal]) (fun X cs os0 K hok hos hK => ?_)
  clear hos; unfold sp_addKink at hK
  split at hK
  case h_2 => exact hK.elim
  rename_i w hs ss p h s
  refine ⟨by simp, by simp, ?_⟩
  simp only [go_sem] at hK hok
  simp (maxSteps := 4000000) only [go_sem, Try.f36, ↓brB_t, ↓brB_f, Nat.reduceAdd, Int.reduceLE, Int.reduceLT, Int.reduceNeg, decide_true, decide_false, Bool.and_self, Nat.succ_eq_add_one, Int.toNat_natCast, Nat.beq_refl, Bool.and_true, Bool.true_and, Bool.false_or, Bool.or_true, List.all_cons, List.all_nil, Nat.reduceMul, Nat.add_zero, Nat.zero_add, List.length_nil, List.length_cons, dite_true, List.nil_append, Nat.reduceBEq, reduceDIte, reduceIte, reduceCtorEq, Bool.or_false, Bool.true_or, Bool.and_false, Bool.false_and, Bool.not_true, Bool.not_false, Option.isSome_some, Option.isSome_none, Option.getD_some, List.getElem?_cons_zero, List.getElem?_cons_succ, eq_self, and_self, List.take_succ_cons, List.take_zero, List.drop_succ_cons, List.drop_zero]
  have err : ∀ {c : Int}, kinkR w hs ss p h s = (([], [], []), c) → K (.tup [.agg [.own 0, .own 1, .own 2], .one (.v (.int .i64 c))]) [rwi [], rwi [], rwi []] := fun e => by rw [e] at hK; exact hK
  refine brB_intro (fun h1 => retM [⟨.cell 144 0, 16, 2, .int .i64⟩, ⟨.cell 144 1, 17, 2, .int .i64⟩, ⟨.cell 144 2, 18, 2, .int .i64⟩] rfl (retN [16, 17, 18] rfl (err (kink1 (nb h1))))) (fun h1 => ?_)
  have h1 := nb' h1
  refine brB_intro (fun h2 => retM [⟨.cell 144 0, 16, 2, .int .i64⟩, ⟨.cell 144 1, 17, 2, .int .i64⟩, ⟨.cell 144 2, 18, 2, .int .i64⟩] rfl (retN [16, 17, 18] rfl (err (kink2 h1 (by rw [nb h2]; rfl))))) (fun h2 => ?_)
  have h2 := nb' h2
  refine brB_intro (fun h3 => retM [⟨.cell 144 0, 16, 2, .int .i64⟩, ⟨.cell 144 1, 17, 2, .int .i64⟩, ⟨.cell 144 2, 18, 2, .int .i64⟩] rfl (retN [16, 17, 18] rfl (err (kink2 h1 (by rw [h2, nb h3]; rfl))))) (fun h3 => ?_)
  have h3 := nb' h3
  have hp := inB_t h2
  obtain ⟨g1, g2, g3⟩ := Go.Proofs.Ytihfncjpfgdhoaa.L.gauss_parts h1
  obtain ⟨w1, w2⟩ := Go.Proofs.Ytihfncjpfgdhoaa.L.word_range g1
  refine brB_intro (fun h4 => brB_intro (fun h5 => retM [⟨.cell 144 0, 16, 2, .int .i64⟩, ⟨.cell 144 1, 17, 2, .int .i64⟩, ⟨.cell 144 2, 18, 2, .int .i64⟩] rfl (retN [16, 17, 18] rfl (err (kink2 h1 (by rw [h2, h3, sgn_f (nb h4) (nb h5)]; rfl))))) (fun h5 => ?_)) (fun h4 => ?_)
  · refine brB_intro (fun h6 => retM [⟨.cell 144 0, 16, 2, .int .i64⟩, ⟨.cell 144 1, 17, 2, .int .i64⟩, ⟨.cell 144 2, 18, 2, .int .i64⟩] rfl (retN [16, 17, 18] rfl (err (kink3 h1 (by rw [h2, h3, sgn_2 (nb' h5)]; rfl) (by have := of_decide_eq_true h6; omega))))) (fun h6 => ?_)
    have e := kink0 h1 (show (inB p 0 w.length && (inB h 0 1 && sgn s)) = true by rw [h2, h3, sgn_2 (nb' h5)]; rfl) (by have := of_decide_eq_false h6; omega)
    rw [e] at hK
    refine ⟨by omega, by omega, by omega, by omega, by omega, kink_need h1 hp, by kernel_rfl, retN [1056, 1057, 1058] rfl hK⟩
  · refine brB_intro (fun h6 => retM [⟨.cell 144 0, 16, 2, .int .i64⟩, ⟨.cell 144 1, 17, 2, .int .i64⟩, ⟨.cell 144 2, 18, 2, .int .i64⟩] rfl (retN [16, 17, 18] rfl (err (kink3 h1 (by rw [h2, h3, sgn_1 (nb' h4)]; rfl) (by have := of_decide_eq_true h6; omega))))) (fun h6 => ?_)
    have e := kink0 h1 (show (inB p 0 w.length && (inB h 0 1 && sgn s)) = true by rw [h2, h3, sgn_1 (nb' h4)]; rfl) (by have := of_decide_eq_false h6; omega)
    rw [e] at hK
    exact ⟨by omega, by omega, by omega, by omega, by omega, kink_need h1 hp, by kernel_rfl, retN [1056, 1057, 1058] rfl hK⟩
def c_addKinkS : Ctr Try.prog := ⟨36, ent Try.func36 rfl rfl, [], sp_addKink, good_addKinkS⟩
@[go_sem] theorem c_addKinkS_f : c_addKinkS.f = 36 := rfl
@[go_sem] theorem c_addKinkS_ms : c_addKinkS.ms = [] := rfl
@[go_sem] theorem c_addKinkS_sp : c_addKinkS.spec = sp_addKink := rfl
attribute [go_sem] sp_addKink
set_option maxHeartbeats 4000000 in
set_option maxRecDepth 100000 in
theorem good_addKinkI : Good Try.prog 37 sp_addKink := by
  refine good_ofF Try.func37 rfl _ rfl _ rfl (tab [c_IsGauss, c_placesOk, c_isHead, c_isSign, c_gch, c_inserted, c_clone, c_renumbered]) (fun X cs os0 K hok hos hK => ?_)
  clear hos; unfold sp_addKink at hK
  split at hK
  case h_2 => exact hK.elim
  rename_i w hs ss p h s
  refine ⟨by simp, by simp, ?_⟩
  simp only [go_sem] at hK hok
  simp (maxSteps := 4000000) only [go_sem, Try.f37, ↓brB_t, ↓brB_f, Nat.reduceAdd, Int.reduceLE, Int.reduceLT, Int.reduceNeg, decide_true, decide_false, Bool.and_self, Nat.succ_eq_add_one, Int.toNat_natCast, Nat.beq_refl, Bool.and_true, Bool.true_and, Bool.false_or, Bool.or_true, List.all_cons, List.all_nil, Nat.reduceMul, Nat.add_zero, Nat.zero_add, List.length_nil, List.length_cons, dite_true, List.nil_append, Nat.reduceBEq, reduceDIte, reduceIte, reduceCtorEq, Bool.or_false, Bool.true_or, Bool.and_false, Bool.false_and, Bool.not_true, Bool.not_false, Option.isSome_some, Option.isSome_none, Option.getD_some, List.getElem?_cons_zero, List.getElem?_cons_succ, eq_self, and_self, List.take_succ_cons, List.take_zero, List.drop_succ_cons, List.drop_zero]
  have err : ∀ {c : Int}, kinkR w hs ss p h s = (([], [], []), c) → K (.tup [.agg [.own 0, .own 1, .own 2], .one (.v (.int .i64 c))]) [rwi [], rwi [], rwi []] := fun e => by rw [e] at hK; exact hK
  have pe : placesB w.length [p] = inB p 0 w.length := by simp [placesB, placeB]
  refine brB_intro (fun h1 => retM [⟨.cell 144 0, 16, 2, .int .i64⟩, ⟨.cell 144 1, 17, 2, .int .i64⟩, ⟨.cell 144 2, 18, 2, .int .i64⟩] rfl (retN [16, 17, 18] rfl (err (kink1 (nb h1))))) (fun h1 => ?_)
  have h1 := nb' h1
  refine brB_intro (fun h2 => retM [⟨.cell 144 0, 16, 2, .int .i64⟩, ⟨.cell 144 1, 17, 2, .int .i64⟩, ⟨.cell 144 2, 18, 2, .int .i64⟩] rfl (retN [16, 17, 18] rfl (err (kink2 h1 (by rw [← pe, nb h2]; rfl))))) (fun h2 => ?_)
  have h2 := pe.symm.trans (nb' h2)
  refine brB_intro (fun h3 => retM [⟨.cell 144 0, 16, 2, .int .i64⟩, ⟨.cell 144 1, 17, 2, .int .i64⟩, ⟨.cell 144 2, 18, 2, .int .i64⟩] rfl (retN [16, 17, 18] rfl (err (kink2 h1 (by rw [h2, nb h3]; rfl))))) (fun h3 => ?_)
  have h3 := nb' h3
  have hp := inB_t h2
  obtain ⟨g1, g2, g3⟩ := Go.Proofs.Ytihfncjpfgdhoaa.L.gauss_parts h1
  obtain ⟨w1, w2⟩ := Go.Proofs.Ytihfncjpfgdhoaa.L.word_range g1
  have h12 := h1
  refine brB_intro (fun h4 => retM [⟨.cell 144 0, 16, 2, .int .i64⟩, ⟨.cell 144 1, 17, 2, .int .i64⟩, ⟨.cell 144 2, 18, 2, .int .i64⟩] rfl (retN [16, 17, 18] rfl (err (kink2 h1 (by rw [h2, h3, sgn, nb h4]; rfl))))) (fun h4 => ?_)
  have h4 : sgn s = true := nb' h4
  have hc : (inB p 0 w.length && (inB h 0 1 && sgn s)) = true := by rw [h2, h3, h4]; rfl
  rw [← g3]
  refine brB_intro (fun h6 => retM [⟨.cell 144 0, 16, 2, .int .i64⟩, ⟨.cell 144 1, 17, 2, .int .i64⟩, ⟨.cell 144 2, 18, 2, .int .i64⟩] rfl (retN [16, 17, 18] rfl (err (kink3 h1 hc (by have := of_decide_eq_true h6; omega))))) (fun h6 => ?_)
  rw [kink0 h1 hc (by have := of_decide_eq_false h6; omega)] at hK
  exact ⟨⟨by omega, by omega, by omega, by omega⟩, by omega, by omega, by omega, by omega, kink_need h1 hp, by kernel_rfl, retN [944, 945, 946] rfl hK⟩
def c_addKinkI : Ctr Try.prog := ⟨37, ent Try.func37 rfl rfl, [], sp_addKink, good_addKinkI⟩
@[go_sem] theorem c_addKinkI_f : c_addKinkI.f = 37 := rfl
@[go_sem] theorem c_addKinkI_ms : c_addKinkI.ms = [] := rfl
@[go_sem] theorem c_addKinkI_sp : c_addKinkI.spec = sp_addKink := rfl
attribute [go_sem] sp_addKink
end Go.Proofs.Ytihfncjpfgdhoaa.V
