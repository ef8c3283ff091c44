/- Contracts: AddPair. Conditions: told by each spec. -/
import Derived.Test.YtihfncjpfgdhoaaVW9
set_option linter.unusedVariables false
set_option linter.unusedSimpArgs false
namespace Go.Proofs.Ytihfncjpfgdhoaa.V
open Go
/-- The numbers of AddPair's new word. -/
def pairL (w : List Int) (n p q kind : Int) : List Int := Go.Proofs.Ytihfncjpfgdhoaa.K.insL (Go.Proofs.Ytihfncjpfgdhoaa.K.insL w [n + kind, n + 1 - kind] q.toNat) [n, n + 1] p.toNat
def pairB (w : List Int) (p q kind head : Int) : Bool := inB q 0 w.length && (inB p 0 q && (inB kind 0 1 && inB head 0 1))
/-- What AddPair gives. -/
def pairR (w hs ss : List Int) (p q kind head : Int) : (List Int × List Int × List Int) × Int :=
  if isG w hs ss then (if pairB w p q kind head then (if 4 < ss.length then (([], [], []), 3) else
    ((Go.Proofs.Ytihfncjpfgdhoaa.K.normalL (pairL w ss.length p q kind), Go.Proofs.Ytihfncjpfgdhoaa.K.firsts (pairL w ss.length p q kind) (hs ++ [head, head]), Go.Proofs.Ytihfncjpfgdhoaa.K.firsts (pairL w ss.length p q kind) (ss ++ [1, -1])), 0)) else (([], [], []), 2)) else (([], [], []), 1)
theorem pair1 {w hs ss : List Int} {p q k h : Int} (g : isG w hs ss = false) : pairR w hs ss p q k h = (([], [], []), 1) := by rw [pairR, g]; rfl
theorem pair2 {w hs ss : List Int} {p q k h : Int} (g : isG w hs ss = true) (c : pairB w p q k h = false) : pairR w hs ss p q k h = (([], [], []), 2) := by rw [pairR, g, c]; rfl
theorem pair3 {w hs ss : List Int} {p q k h : Int} (g : isG w hs ss = true) (c : pairB w p q k h = true) (l : 4 < ss.length) : pairR w hs ss p q k h = (([], [], []), 3) := by rw [pairR, g, c, if_pos l]; rfl
theorem pair0 {w hs ss : List Int} {p q k h : Int} (g : isG w hs ss = true) (c : pairB w p q k h = true) (l : ¬ 4 < ss.length) : pairR w hs ss p q k h = ((Go.Proofs.Ytihfncjpfgdhoaa.K.normalL (pairL w ss.length p q k), Go.Proofs.Ytihfncjpfgdhoaa.K.firsts (pairL w ss.length p q k) (hs ++ [h, h]), Go.Proofs.Ytihfncjpfgdhoaa.K.firsts (pairL w ss.length p q k) (ss ++ [1, -1])), 0) := by rw [pairR, g, c, if_neg l]; rfl
theorem pairL_len (w : List Int) (n p q kind : Int) : (pairL w n p q kind).length = w.length + 4 := by
  rw [pairL, Go.Proofs.Ytihfncjpfgdhoaa.K.insL_length, Go.Proofs.Ytihfncjpfgdhoaa.K.insL_length]; rfl
theorem pair_need {w hs ss : List Int} {p q k h : Int} (g : isG w hs ss = true) (hk : 0 ≤ k ∧ k ≤ 1) : (pairL w ss.length p q k).length < 1099511627776 ∧ ∀ x ∈ pairL w ss.length p q k, 0 ≤ x ∧ x < ((hs ++ [h, h]).length : Nat) ∧ x < ((ss ++ [1, -1]).length : Nat) := by
  obtain ⟨g1, g2, g3⟩ := Go.Proofs.Ytihfncjpfgdhoaa.L.gauss_parts g
  obtain ⟨w1, w2⟩ := Go.Proofs.Ytihfncjpfgdhoaa.L.word_range g1
  refine ⟨by rw [pairL_len]; omega, fun x hx => ?_⟩
  rw [List.length_append, List.length_append]
  simp only [List.length_cons, List.length_nil]
  rcases insL_mem hx with h | h
  · rcases insL_mem h with h | h
    · have := w2 x h; omega
    · simp only [List.mem_cons, List.not_mem_nil, or_false] at h; omega
  · simp only [List.mem_cons, List.not_mem_nil, or_false] at h; omega
theorem pairR_len (w hs ss : List Int) (p q k h : Int) : (pairR w hs ss p q k h).1.1.length ≤ 1048576 ∧ (pairR w hs ss p q k h).1.2.1.length ≤ 1048576 ∧ (pairR w hs ss p q k h).1.2.2.length ≤ 1048576 := by
  unfold pairR
  split
  · rename_i g
    obtain ⟨g1, g2, g3⟩ := Go.Proofs.Ytihfncjpfgdhoaa.L.gauss_parts g
    obtain ⟨w1, w2⟩ := Go.Proofs.Ytihfncjpfgdhoaa.L.word_range g1
    split
    · split
      · exact ⟨by decide, by decide, by decide⟩
      · have e := pairL_len w ss.length p q k
        refine ⟨?_, Nat.le_trans (firsts_len _ _) (by omega), Nat.le_trans (firsts_len _ _) (by omega)⟩
        show (Go.Proofs.Ytihfncjpfgdhoaa.K.normFrom _ _).length ≤ _
        rw [Go.Proofs.Ytihfncjpfgdhoaa.K.normFrom_length]; omega
    · exact ⟨by decide, by decide, by decide⟩
  · exact ⟨by decide, by decide, by decide⟩
def sp_addPair : List Cv → List Obj' → Tree
  | [.agg [.ro (.int .i64) w, .ro (.int .i64) hs, .ro (.int .i64) ss], .one (.v (.int .i64 p)), .one (.v (.int .i64 q)), .one (.v (.int .i64 k)), .one (.v (.int .i64 h))], [] => resG (pairR w hs ss p q k h)
  | _, _ => .fail
theorem w64_small {n : Nat} {k : Int} (h : n ≤ 6) (h0 : 0 ≤ k) (h1 : k ≤ 1) : w64 ((n : Int) + 2) = (n : Int) + 2 ∧ w64 ((n : Int) + k) = (n : Int) + k ∧ w64 ((n : Int) + 1) = (n : Int) + 1 ∧ w64 ((n : Int) + 1 - k) = (n : Int) + 1 - k :=
  ⟨w64_id (by omega) (by omega), w64_id (by omega) (by omega), w64_id (by omega) (by omega), w64_id (by omega) (by omega)⟩
set_option maxHeartbeats 4000000 in
set_option maxRecDepth 100000 in
theorem good_addPairS : Good Try.prog 38 sp_addPair := by
  refine good_ofF Try.func38 rfl _ rfl _ rfl (tab [c_l07Is, c_l01In, c_l07Insert, c_own, c_l07Normal]) (fun X cs os0 K hok hos hK => ?_)
  clear hos; unfold sp_addPair at hK
  split at hK
  case h_2 => exact hK.elim
  rename_i w hs ss p q k h
  refine ⟨by simp, by simp, ?_⟩
  simp only [go_sem] at hK hok
  simp (maxSteps := 4000000) only [go_sem, Try.f38, ↓brB_t, ↓brB_f, Nat.reduceAdd, Int.reduceLE, Int.reduceLT, Int.reduceNeg, decide_true, decide_false, Bool.and_self, Nat.succ_eq_add_one, Int.toNat_natCast, Nat.beq_refl, Bool.and_true, Bool.true_and, Bool.false_or, Bool.or_true, List.all_cons, List.all_nil, Nat.reduceMul, Nat.add_zero, Nat.zero_add, List.length_nil, List.length_cons, dite_true, List.nil_append, Nat.reduceBEq, reduceDIte, reduceIte, reduceCtorEq, Bool.or_false, Bool.true_or, Bool.and_false, Bool.false_and, Bool.not_true, Bool.not_false, Option.isSome_some, Option.isSome_none, Option.getD_some, List.getElem?_cons_zero, List.getElem?_cons_succ, eq_self, and_self]
  have err : ∀ {c : Int}, pairR w hs ss p q k h = (([], [], []), c) → K (.tup [.agg [.own 0, .own 1, .own 2], .one (.v (.int .i64 c))]) [rwi [], rwi [], rwi []] := fun e => by rw [e] at hK; exact hK
  refine brB_intro (fun h1 => retM [⟨.cell 176 0, 16, 2, .int .i64⟩, ⟨.cell 176 1, 17, 2, .int .i64⟩, ⟨.cell 176 2, 18, 2, .int .i64⟩] rfl (retN [16, 17, 18] rfl (err (pair1 (nb h1))))) (fun h1 => ?_)
  have h1 := nb' h1
  refine brB_intro (fun h2 => retM [⟨.cell 176 0, 16, 2, .int .i64⟩, ⟨.cell 176 1, 17, 2, .int .i64⟩, ⟨.cell 176 2, 18, 2, .int .i64⟩] rfl (retN [16, 17, 18] rfl (err (pair2 h1 (by rw [pairB, nb h2]; rfl))))) (fun h2 => ?_)
  have h2 := nb' h2
  refine brB_intro (fun h3 => retM [⟨.cell 176 0, 16, 2, .int .i64⟩, ⟨.cell 176 1, 17, 2, .int .i64⟩, ⟨.cell 176 2, 18, 2, .int .i64⟩] rfl (retN [16, 17, 18] rfl (err (pair2 h1 (by rw [pairB, h2, nb h3]; rfl))))) (fun h3 => ?_)
  have h3 := nb' h3
  refine brB_intro (fun h4 => retM [⟨.cell 176 0, 16, 2, .int .i64⟩, ⟨.cell 176 1, 17, 2, .int .i64⟩, ⟨.cell 176 2, 18, 2, .int .i64⟩] rfl (retN [16, 17, 18] rfl (err (pair2 h1 (by rw [pairB, h2, h3, nb h4]; rfl))))) (fun h4 => ?_)
  have h4 := nb' h4
  refine brB_intro (fun h5 => retM [⟨.cell 176 0, 16, 2, .int .i64⟩, ⟨.cell 176 1, 17, 2, .int .i64⟩, ⟨.cell 176 2, 18, 2, .int .i64⟩] rfl (retN [16, 17, 18] rfl (err (pair2 h1 (by rw [pairB, h2, h3, h4, nb h5]; rfl))))) (fun h5 => ?_)
  have h5 := nb' h5
  have hc : pairB w p q k h = true := by rw [pairB, h2, h3, h4, h5]; rfl
  have hq := inB_t h2
  have hp := inB_t h3
  have hk := inB_t h4
  have g1 := (Go.Proofs.Ytihfncjpfgdhoaa.L.gauss_parts h1).1
  have g2 := (Go.Proofs.Ytihfncjpfgdhoaa.L.gauss_parts h1).2.1
  have g3 := (Go.Proofs.Ytihfncjpfgdhoaa.L.gauss_parts h1).2.2
  have w1 := (Go.Proofs.Ytihfncjpfgdhoaa.L.word_range g1).1
  have hw := w64_small (n := ss.length) (k := k) (by omega) hk.1 hk.2
  have e1 := hw.1
  have e2 := hw.2.1
  have e3 := hw.2.2.1
  have e4 := hw.2.2.2
  clear hok hw
  simp only [e1, e2, e3, e4]
  refine brB_intro (fun h6 => retM [⟨.cell 176 0, 16, 2, .int .i64⟩, ⟨.cell 176 1, 17, 2, .int .i64⟩, ⟨.cell 176 2, 18, 2, .int .i64⟩] rfl (retN [16, 17, 18] rfl (err (pair3 h1 hc (by have := of_decide_eq_true h6; omega))))) (fun h6 => ?_)
  rw [pair0 h1 hc (by have := of_decide_eq_false h6; omega)] at hK
  have hl : (Go.Proofs.Ytihfncjpfgdhoaa.K.insL w [(ss.length : Int) + k, ss.length + 1 - k] q.toNat).length = w.length + 2 := Go.Proofs.Ytihfncjpfgdhoaa.K.insL_length ..
  rw [hl]
  exact ⟨⟨by omega, by omega, by omega⟩, ⟨by omega, by omega, by omega⟩, by omega, by omega, by omega, by omega, pair_need h1 hk, by kernel_rfl, retN [1376, 1377, 1378] rfl hK⟩
def c_addPairS : Ctr Try.prog := ⟨38, ent Try.func38 rfl rfl, [], sp_addPair, good_addPairS⟩
@[go_sem] theorem c_addPairS_f : c_addPairS.f = 38 := rfl
@[go_sem] theorem c_addPairS_ms : c_addPairS.ms = [] := rfl
@[go_sem] theorem c_addPairS_sp : c_addPairS.spec = sp_addPair := rfl
attribute [go_sem] sp_addPair
theorem placesB2 (n : Nat) (p q : Int) : placesB n [p, q] = (inB q 0 n && inB p 0 q) := by
  have e : placesB n [p, q] = (placeB n [p, q] 0 && placeB n [p, q] 1) := by
    show ([0, 1] : List Nat).all _ = _
    simp
  rw [e]
  show (((decide (0 ≤ p) && decide (p ≤ n)) && (true || _)) && ((decide (0 ≤ q) && decide (q ≤ n)) && (false || decide (p ≤ q)))) = ((decide (0 ≤ q) && decide (q ≤ n)) && (decide (0 ≤ p) && decide (p ≤ q)))
  rw [Bool.true_or, Bool.and_true, Bool.false_or, Bool.eq_iff_iff]
  simp only [Bool.and_eq_true, decide_eq_true_eq]
  omega
set_option maxHeartbeats 4000000 in
set_option maxRecDepth 100000 in
theorem good_addPairI : Good Try.prog 39 sp_addPair := by
  refine good_ofF Try.func39 rfl _ rfl _ rfl (tab [c_IsGauss, c_placesOk, c_in, c_isHead, c_gch, c_inserted, c_clone, c_renumbered]) (fun X cs os0 K hok hos hK => ?_)
  clear hos; unfold sp_addPair at hK
  split at hK
  case h_2 => exact hK.elim
  rename_i w hs ss p q k h
  refine ⟨by simp, by simp, ?_⟩
  simp only [go_sem] at hK hok
  simp (maxSteps := 4000000) only [go_sem, Try.f39, ↓brB_t, ↓brB_f, Nat.reduceAdd, Int.reduceLE, Int.reduceLT, Int.reduceNeg, decide_true, decide_false, Bool.and_self, Nat.succ_eq_add_one, Int.toNat_natCast, Nat.beq_refl, Bool.and_true, Bool.true_and, Bool.false_or, Bool.or_true, List.all_cons, List.all_nil, Nat.reduceMul, Nat.add_zero, Nat.zero_add, List.length_nil, List.length_cons, dite_true, List.nil_append, Nat.reduceBEq, reduceDIte, reduceIte, reduceCtorEq, Bool.or_false, Bool.true_or, Bool.and_false, Bool.false_and, Bool.not_true, Bool.not_false, Option.isSome_some, Option.isSome_none, Option.getD_some, List.getElem?_cons_zero, List.getElem?_cons_succ, eq_self, and_self]
  have err : ∀ {c : Int}, pairR w hs ss p q k h = (([], [], []), c) → K (.tup [.agg [.own 0, .own 1, .own 2], .one (.v (.int .i64 c))]) [rwi [], rwi [], rwi []] := fun e => by rw [e] at hK; exact hK
  clear hok
  refine brB_intro (fun h1 => retM [⟨.cell 176 0, 16, 2, .int .i64⟩, ⟨.cell 176 1, 17, 2, .int .i64⟩, ⟨.cell 176 2, 18, 2, .int .i64⟩] rfl (retN [16, 17, 18] rfl (err (pair1 (nb h1))))) (fun h1 => ?_)
  have h1 := nb' h1
  rw [placesB2]
  refine brB_intro (fun h2 => retM [⟨.cell 176 0, 16, 2, .int .i64⟩, ⟨.cell 176 1, 17, 2, .int .i64⟩, ⟨.cell 176 2, 18, 2, .int .i64⟩] rfl (retN [16, 17, 18] rfl (err (pair2 h1 (by rw [pairB, ← Bool.and_assoc, nb h2]; rfl))))) (fun h2 => ?_)
  have h2 := nb' h2
  have h2a : inB q 0 w.length = true := (Bool.and_eq_true_iff.1 h2).1
  have h2b : inB p 0 q = true := (Bool.and_eq_true_iff.1 h2).2
  refine brB_intro (fun h4 => retM [⟨.cell 176 0, 16, 2, .int .i64⟩, ⟨.cell 176 1, 17, 2, .int .i64⟩, ⟨.cell 176 2, 18, 2, .int .i64⟩] rfl (retN [16, 17, 18] rfl (err (pair2 h1 (by rw [pairB, h2a, h2b, nb h4]; rfl))))) (fun h4 => ?_)
  have h4 := nb' h4
  refine brB_intro (fun h5 => retM [⟨.cell 176 0, 16, 2, .int .i64⟩, ⟨.cell 176 1, 17, 2, .int .i64⟩, ⟨.cell 176 2, 18, 2, .int .i64⟩] rfl (retN [16, 17, 18] rfl (err (pair2 h1 (by rw [pairB, h2a, h2b, h4, nb h5]; rfl))))) (fun h5 => ?_)
  have h5 := nb' h5
  have hc : pairB w p q k h = true := by rw [pairB, h2a, h2b, h4, h5]; rfl
  have hq := inB_t h2a
  have hp := inB_t h2b
  have hk := inB_t h4
  have g1 := (Go.Proofs.Ytihfncjpfgdhoaa.L.gauss_parts h1).1
  have g2 := (Go.Proofs.Ytihfncjpfgdhoaa.L.gauss_parts h1).2.1
  have g3 := (Go.Proofs.Ytihfncjpfgdhoaa.L.gauss_parts h1).2.2
  have w1 := (Go.Proofs.Ytihfncjpfgdhoaa.L.word_range g1).1
  have hw := w64_small (n := ss.length) (k := k) (by omega) hk.1 hk.2
  have e1 := hw.1
  have e3 := hw.2.2.1
  clear hw
  simp only [← g3, e1, e3]
  refine brB_intro (fun h6 => retM [⟨.cell 176 0, 16, 2, .int .i64⟩, ⟨.cell 176 1, 17, 2, .int .i64⟩, ⟨.cell 176 2, 18, 2, .int .i64⟩] rfl (retN [16, 17, 18] rfl (err (pair3 h1 hc (by have := of_decide_eq_true h6; omega))))) (fun h6 => ?_)
  rw [pair0 h1 hc (by have := of_decide_eq_false h6; omega)] at hK
  refine brB_intro (fun h7 => ?_) (fun h7 => ?_)
  · have hl : (Go.Proofs.Ytihfncjpfgdhoaa.K.insL w [(ss.length : Int) + 1, ss.length] q.toNat).length = w.length + 2 := Go.Proofs.Ytihfncjpfgdhoaa.K.insL_length ..
    have ek : pairL w ss.length p q k = Go.Proofs.Ytihfncjpfgdhoaa.K.insL (Go.Proofs.Ytihfncjpfgdhoaa.K.insL w [(ss.length : Int) + 1, ss.length] q.toNat) [(ss.length : Int), ss.length + 1] p.toNat := by
      have h7 : k = 1 := of_decide_eq_true h7
      rw [pairL, h7, show (ss.length : Int) + 1 - 1 = ss.length by omega]
    rw [ek] at hK
    have hn := pair_need (p := p) (q := q) (h := h) h1 hk
    rw [ek] at hn
    rw [hl]
    exact ⟨⟨by omega, by omega, by omega, by omega⟩, ⟨by omega, by omega, by omega, by omega⟩, by omega, by omega, by omega, by omega, hn, by kernel_rfl, retN [1280, 1281, 1282] rfl hK⟩
  · have hl : (Go.Proofs.Ytihfncjpfgdhoaa.K.insL w [(ss.length : Int), ss.length + 1] q.toNat).length = w.length + 2 := Go.Proofs.Ytihfncjpfgdhoaa.K.insL_length ..
    have ek : pairL w ss.length p q k = Go.Proofs.Ytihfncjpfgdhoaa.K.insL (Go.Proofs.Ytihfncjpfgdhoaa.K.insL w [(ss.length : Int), ss.length + 1] q.toNat) [(ss.length : Int), ss.length + 1] p.toNat := by
      have h7 : ¬ k = 1 := of_decide_eq_false h7
      rw [pairL, show k = 0 by omega, show (ss.length : Int) + 1 - 0 = ss.length + 1 by omega, show (ss.length : Int) + 0 = ss.length by omega]
    rw [ek] at hK
    have hn := pair_need (p := p) (q := q) (h := h) h1 hk
    rw [ek] at hn
    rw [hl]
    exact ⟨⟨by omega, by omega, by omega, by omega⟩, ⟨by omega, by omega, by omega, by omega⟩, by omega, by omega, by omega, by omega, hn, by kernel_rfl, retN [1280, 1281, 1282] rfl hK⟩
def c_addPairI : Ctr Try.prog := ⟨39, ent Try.func39 rfl rfl, [], sp_addPair, good_addPairI⟩
@[go_sem] theorem c_addPairI_f : c_addPairI.f = 39 := rfl
@[go_sem] theorem c_addPairI_ms : c_addPairI.ms = [] := rfl
@[go_sem] theorem c_addPairI_sp : c_addPairI.spec = sp_addPair := rfl
attribute [go_sem] sp_addPair
attribute [go_sem] resG marks_length
def sp_lawGiiii : List Cv → List Obj' → Tree
  | [.agg [.ro (.int .i64) w, .ro (.int .i64) hs, .ro (.int .i64) ss], .one (.v (.int .i64 p)), .one (.v (.int .i64 q)), .one (.v (.int .i64 k)), .one (.v (.int .i64 h))], [] => .ret (vb true) []
  | _, _ => .fail
set_option maxHeartbeats 4000000 in
set_option maxRecDepth 100000 in
theorem good_lawAddPair : Good Try.prog 10 sp_lawGiiii := by
  refine good_ofF Try.func10 rfl _ rfl _ rfl (tab [c_szG, c_toG, c_addPairS, c_addPairI, c_eqG, c_markG, c_heldG]) (fun X cs os0 K hok hos hK => ?_)
  clear hos; unfold sp_lawGiiii at hK
  split at hK
  case h_2 => exact hK.elim
  rename_i w hs ss p q k h
  refine ⟨by simp, by simp, ?_⟩
  simp only [go_sem] at hK hok
  simp (maxSteps := 4000000) only [go_sem, Try.f10, ↓brB_t, ↓brB_f, Nat.reduceAdd, Int.reduceLE, Int.reduceLT, Int.reduceNeg, decide_true, decide_false, Bool.and_self, Nat.succ_eq_add_one, Int.toNat_natCast, Nat.beq_refl, Bool.and_true, Bool.true_and, Bool.false_or, Bool.or_true, List.all_cons, List.all_nil, Nat.reduceMul, Nat.add_zero, Nat.zero_add, List.length_nil, List.length_cons, dite_true, List.nil_append, Nat.reduceBEq, reduceDIte, reduceIte, reduceCtorEq, Bool.or_false, Bool.true_or, Bool.and_false, Bool.false_and, Bool.not_true, Bool.not_false, Option.isSome_some, Option.isSome_none, Option.getD_some, List.getElem?_cons_zero, List.getElem?_cons_succ, eq_self, and_self]
  have hr := pairR_len w hs ss p q k h
  generalize pairR w hs ss p q k h = r at *
  have r1 := hr.1
  have r2 := hr.2.1
  have r3 := hr.2.2
  clear hok hr
  refine ⟨trivial, brB_intro (fun _ => ret0 hK) (fun h1 => ?_)⟩
  have hz : (w.length : Int) + hs.length + ss.length ≤ 1048576 := by
    have h1 := of_decide_eq_false h1; split at h1 <;> omega
  have a1 : w.length ≤ 1099511627776 ∧ hs.length ≤ 1099511627776 ∧ ss.length ≤ 1099511627776 := ⟨by omega, by omega, by omega⟩
  exact ⟨a1, a1, a1, by kernel_rfl, ⟨trivial, by omega⟩, brB_intro (fun h2 => by have := of_decide_eq_true h2; omega) (fun _ => ⟨⟨trivial, by omega⟩, ⟨trivial, by omega⟩, brB_intro (fun h2 => by have := of_decide_eq_true h2; omega) (fun _ => ⟨a1, ⟨trivial, by omega⟩, brB_intro (fun h2 => by have := of_decide_eq_true h2; omega) (fun _ => ret0 hK)⟩)⟩)⟩
end Go.Proofs.Ytihfncjpfgdhoaa.V
