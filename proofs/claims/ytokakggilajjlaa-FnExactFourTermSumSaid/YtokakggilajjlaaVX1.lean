/- Contracts: words with a chord added, by both sides. Conditions: told by each spec. -/
import Derived.Test.YtokakggilajjlaaVBI
import Derived.Test.YtokakggilajjlaaVJC
import Derived.Test.YtokakggilajjlaaVW12
set_option linter.unusedVariables false
set_option linter.unusedSimpArgs false
namespace Go.Proofs.Ytokakggilajjlaa.V
open Go
/-- A word with a chord added. -/
def addL (w : List Int) (p q : Nat) : List Int := Go.Proofs.Ytokakggilajjlaa.K.normalL (w.take p ++ [99] ++ (w.take q).drop p ++ [99] ++ w.drop q)
theorem cut_mem {w : List Int} {p q : Nat} (hpq : p ≤ q) {x : Int} (h : x ∉ w) : x ∉ w.take p ++ (w.take q).drop p ++ w.drop q := by
  intro hx
  rcases List.mem_append.1 hx with hx | hx
  · rcases List.mem_append.1 hx with hx | hx
    · exact h (List.mem_of_mem_take hx)
    · exact h (List.mem_of_mem_take (List.mem_of_mem_drop hx))
  · exact h (List.mem_of_mem_drop hx)
theorem add_ins {w : List Int} {p q : Nat} {m : Int} (hpq : p ≤ q) (hq : q ≤ w.length) (hm : m ∉ w) (h9 : (99 : Int) ∉ w) : Go.Proofs.Ytokakggilajjlaa.K.normalL (Go.Proofs.Ytokakggilajjlaa.K.insL (Go.Proofs.Ytokakggilajjlaa.K.insL w [m] q) [m] p) = addL w p q := by
  rw [Go.Proofs.Ytokakggilajjlaa.L.ins_twice w m p q hpq hq, addL]
  exact Go.Proofs.Ytokakggilajjlaa.L.normal_new _ _ _ m 99 (cut_mem hpq hm) (cut_mem hpq h9)
theorem w_notin {w : List Int} (hw : isW w = true) {m : Int} (h : ((w.length / 2 : Nat) : Int) ≤ m) : m ∉ w := fun hx => by
  obtain ⟨h1, h2⟩ := Go.Proofs.Ytokakggilajjlaa.L.word_range (by rw [← Go.Proofs.Ytokakggilajjlaa.L.isW_eq]; exact hw)
  have := h2 m hx
  omega
def sp_wc : List Cv → List Obj' → Tree
  | [.one (.ro (.int .i64) w), .one (.v (.int .i64 p)), .one (.v (.int .i64 q))], [] => .need (isW w = true ∧ 0 ≤ p ∧ p ≤ q ∧ q ≤ w.length) (.ret (ow 0) [rwi (addL w p.toNat q.toNat)])
  | _, _ => .fail
set_option maxHeartbeats 4000000 in
set_option maxRecDepth 100000 in
theorem good_wc : Good Try.prog 137 sp_wc := by
  refine good_ofF Try.func137 rfl _ rfl _ rfl (tab [c_chords, c_inserted, c_normal]) (fun X cs os0 K hok hos hK => ?_)
  clear hos; unfold sp_wc at hK
  split at hK
  case h_2 => exact hK.elim
  rename_i w p q
  refine ⟨by simp, by simp, ?_⟩
  simp only [go_sem] at hK hok
  simp (maxSteps := 4000000) only [go_sem, Try.f137, ↓brB_t, ↓brB_f, Nat.reduceAdd, Int.reduceLE, Int.reduceLT, Int.reduceNeg, decide_true, decide_false, Bool.and_self, Nat.succ_eq_add_one, Int.toNat_natCast, Nat.beq_refl, Bool.and_true, Bool.true_and, Bool.false_or, Bool.or_true, List.all_cons, List.all_nil, Nat.reduceMul, Nat.add_zero, Nat.zero_add, List.length_nil, List.length_cons, dite_true, List.nil_append, Nat.reduceBEq, reduceDIte, reduceIte, reduceCtorEq, Bool.or_false, Bool.true_or, Bool.and_false, Bool.false_and, Bool.not_true, Bool.not_false, Option.isSome_some, Option.isSome_none, Option.getD_some, List.getElem?_cons_zero, List.getElem?_cons_succ, eq_self, and_self, List.take_succ_cons, List.take_zero, List.drop_succ_cons, List.drop_zero]
  obtain ⟨⟨h1, h2, h3, h4⟩, hK⟩ := hK
  clear hok
  have hl := isW_len h1
  have l1 := insL_len (w := w) (m := [((w.length / 2 : Nat) : Int)]) (i := q.toNat) (by omega)
  have l2 := insL_len (w := Go.Proofs.Ytokakggilajjlaa.K.insL w [((w.length / 2 : Nat) : Int)] q.toNat) (m := [((w.length / 2 : Nat) : Int)]) (i := p.toNat) (by omega)
  rw [← add_ins (m := ((w.length / 2 : Nat) : Int)) (by omega) (by omega) (w_notin h1 (Int.le_refl _)) (w_notin h1 (by omega))] at hK
  simp only [List.length_singleton] at l1 l2
  exact ⟨⟨by omega, by omega, by omega, by omega⟩, ⟨by omega, by omega, by omega, by omega⟩, by omega, retN [320] rfl hK⟩
def c_wc : Ctr Try.prog := ⟨137, ent Try.func137 rfl rfl, [], sp_wc, good_wc, []⟩
@[go_sem] theorem c_wc_f : c_wc.f = 137 := rfl
@[go_sem] theorem c_wc_ms : c_wc.ms = [] := rfl
@[go_sem] theorem c_wc_sp : c_wc.spec = sp_wc := rfl
@[go_sem] theorem c_wc_fz : c_wc.fz = [] := rfl
attribute [go_sem] sp_wc
set_option maxHeartbeats 4000000 in
set_option maxRecDepth 100000 in
theorem good_addS : Good Try.prog 131 sp_wc := by
  refine good_ofF Try.func131 rfl _ rfl _ rfl (tab [c_own, c_l01Normal]) (fun X cs os0 K hok hos hK => ?_)
  clear hos; unfold sp_wc at hK
  split at hK
  case h_2 => exact hK.elim
  rename_i w p q
  refine ⟨by simp, by simp, ?_⟩
  simp only [go_sem] at hK hok
  simp (maxSteps := 4000000) only [go_sem, Try.f131, ↓brB_t, ↓brB_f, Nat.reduceAdd, Int.reduceLE, Int.reduceLT, Int.reduceNeg, decide_true, decide_false, Bool.and_self, Nat.succ_eq_add_one, Int.toNat_natCast, Nat.beq_refl, Bool.and_true, Bool.true_and, Bool.false_or, Bool.or_true, List.all_cons, List.all_nil, Nat.reduceMul, Nat.add_zero, Nat.zero_add, List.length_nil, List.length_cons, dite_true, List.nil_append, Nat.reduceBEq, reduceDIte, reduceIte, reduceCtorEq, Bool.or_false, Bool.true_or, Bool.and_false, Bool.false_and, Bool.not_true, Bool.not_false, Option.isSome_some, Option.isSome_none, Option.getD_some, List.getElem?_cons_zero, List.getElem?_cons_succ, eq_self, and_self, List.take_succ_cons, List.take_zero, List.drop_succ_cons, List.drop_zero]
  obtain ⟨⟨h1, h2, h3, h4⟩, hK⟩ := hK
  clear hok
  have hl := isW_len h1
  have e : (List.drop p.toNat (List.take q.toNat w)).length ≤ 12 := by rw [List.length_drop, List.length_take]; omega
  have e1 : (List.take p.toNat w).length ≤ 12 := by rw [List.length_take]; omega
  have e2 : (List.drop q.toNat w).length ≤ 12 := by rw [List.length_drop]; omega
  rw [addL] at hK
  generalize List.drop p.toNat (List.take q.toNat w) = b at *
  simp only [List.length_append, List.length_singleton]
  exact ⟨by omega, by omega, by omega, by omega, by omega, by omega, by omega, by omega, by omega, retN [464] rfl hK⟩
def c_addS : Ctr Try.prog := ⟨131, ent Try.func131 rfl rfl, [], sp_wc, good_addS, []⟩
@[go_sem] theorem c_addS_f : c_addS.f = 131 := rfl
@[go_sem] theorem c_addS_ms : c_addS.ms = [] := rfl
@[go_sem] theorem c_addS_sp : c_addS.spec = sp_wc := rfl
@[go_sem] theorem c_addS_fz : c_addS.fz = [] := rfl
attribute [go_sem] sp_wc
/-! ### four terms -/
theorem normal_rng (l : List Int) : ∀ x ∈ Go.Proofs.Ytokakggilajjlaa.K.normalL l, 0 ≤ x ∧ x < l.length := by
  intro x hx
  have h1 := Go.Proofs.Ytokakggilajjlaa.L.normFrom_range l [] x hx
  have h2 : (Go.Proofs.Ytokakggilajjlaa.K.metBy [] l).length ≤ l.length := by simpa using metBy_length l []
  omega
theorem addL_sm {w : List Int} (hw : isW w = true) {p q : Nat} (hpq : p ≤ q) (hq : q ≤ w.length) : smB (addL w p q) := by
  have hl := isW_len hw
  have hn : (addL w p q).length ≤ 24 := by
    rw [addL, Go.Proofs.Ytokakggilajjlaa.K.normalL_length]
    simp only [List.length_append, List.length_singleton, List.length_take, List.length_drop]
    omega
  refine ⟨hn, fun x hx => ?_⟩
  have h := normal_rng _ x hx
  rw [addL, Go.Proofs.Ytokakggilajjlaa.K.normalL_length] at hn
  omega
def endsL (w : List Int) (i : Int) : List Int := [pl1 w i, pl1 w i + 1, pl2 w i, pl2 w i + 1]
/-- Terms of a four-term sum: the numbers s and t in turn. -/
def fourT (w : List Int) (i x s t : Int) (k : Nat) : TermL := (List.range k).map fun j => (addL w (mn x ((endsL w i).getD j 0)).toNat (mx x ((endsL w i).getD j 0)).toNat, if j % 2 = 0 then s else t)
theorem fourT_s (w : List Int) (i x s t : Int) (k : Nat) : fourT w i x s t (k + 1) = fourT w i x s t k ++ [(addL w (mn x ((endsL w i).getD k 0)).toNat (mx x ((endsL w i).getD k 0)).toNat, if k % 2 = 0 then s else t)] := by rw [fourT, List.range_succ, List.map_append]; rfl
theorem two_of {w : List Int} (hw : isW w = true) {i : Int} (h0 : 0 ≤ i) (h1 : i < ((w.length / 2 : Nat) : Int)) : w.count i = 2 := by
  obtain ⟨m, hm⟩ := Go.Proofs.Ytokakggilajjlaa.L.word_of w (by rw [← Go.Proofs.Ytokakggilajjlaa.L.isW_eq]; exact hw)
  have hl := hm.len
  have := hm.two i.toNat (by omega)
  rwa [Int.toNat_of_nonneg h0] at this
theorem ends_in {w : List Int} (hw : isW w = true) {i : Int} (h0 : 0 ≤ i) (h1 : i < ((w.length / 2 : Nat) : Int)) : w64 (pl1 w i + 1) = pl1 w i + 1 ∧ w64 (pl2 w i + 1) = pl2 w i + 1 ∧ ∀ j, 0 ≤ (endsL w i).getD j 0 ∧ (endsL w i).getD j 0 ≤ (w.length : Int) := by
  have hl := isW_len hw
  obtain ⟨a, b, h2, h3, h4, h5, _⟩ := pl_two (two_of hw h0 h1)
  unfold endsL
  rw [h4, h5]
  refine ⟨w64_id (by omega) (by omega), w64_id (by omega) (by omega), fun j => ?_⟩
  match j with
  | 0 => exact ⟨by show (0 : Int) ≤ a; omega, by show (a : Int) ≤ _; omega⟩
  | 1 => exact ⟨by show (0 : Int) ≤ a + 1; omega, by show (a : Int) + 1 ≤ _; omega⟩
  | 2 => exact ⟨by show (0 : Int) ≤ b; omega, by show (b : Int) ≤ _; omega⟩
  | 3 => exact ⟨by show (0 : Int) ≤ b + 1; omega, by show (b : Int) + 1 ≤ _; omega⟩
  | j + 4 => exact ⟨Int.le_refl 0, by show (0 : Int) ≤ _; omega⟩
theorem mn_mx {x y n : Int} (h0 : 0 ≤ x) (h1 : x ≤ n) (h2 : 0 ≤ y) (h3 : y ≤ n) : 0 ≤ mn x y ∧ mn x y ≤ mx x y ∧ mx x y ≤ n := by
  unfold mn mx
  split <;> split <;> omega
theorem fourT_sm {w : List Int} (hw : isW w = true) {i x s t : Int} (h0 : 0 ≤ i) (h1 : i < ((w.length / 2 : Nat) : Int)) (h2 : 0 ≤ x) (h3 : x ≤ (w.length : Int)) (k : Nat) : ∀ y ∈ fourT w i x s t k, smB y.1 ∧ (y.2 = s ∨ y.2 = t) := fun y hy => by
  obtain ⟨j, _, rfl⟩ := List.mem_map.1 hy
  have he := (ends_in hw h0 h1).2.2 j
  have hm := mn_mx h2 h3 he.1 he.2
  refine ⟨addL_sm hw (by omega) (by omega), ?_⟩
  show (if j % 2 = 0 then s else t) = s ∨ (if j % 2 = 0 then s else t) = t
  split
  · exact .inl rfl
  · exact .inr rfl
theorem fourT_wS (w : List Int) (i x p : Int) (u : List Int) : ∀ k, ∃ c : Int, wS (fourT w i x 1 (p - 1) k) u = wS (fourT w i x 1 (-1) k) u + p * c
  | 0 => ⟨0, by simp [fourT, wS]⟩
  | k + 1 => by
    obtain ⟨c, hc⟩ := fourT_wS w i x p u k
    rw [fourT_s, fourT_s, wS_append, wS_append, hc]
    simp only [wS]
    by_cases hk : k % 2 = 0
    · rw [if_pos hk, if_pos hk]
      exact ⟨c, by omega⟩
    · rw [if_neg hk, if_neg hk]
      by_cases hu : addL w (mn x ((endsL w i).getD k 0)).toNat (mx x ((endsL w i).getD k 0)).toNat = u
      · rw [if_pos hu, if_pos hu]
        exact ⟨c + 1, by rw [Int.mul_add, Int.mul_one]; omega⟩
      · rw [if_neg hu, if_neg hu]
        exact ⟨c, by omega⟩
theorem fourT_cF {p : Int} (h0 : 0 < p) (h1 : p ≤ 13) {w : List Int} (hw : isW w = true) {i x : Int} (h2 : 0 ≤ i) (h3 : i < ((w.length / 2 : Nat) : Int)) (h4 : 0 ≤ x) (h5 : x ≤ (w.length : Int)) :
    cF p (fun _ => 0) (fourT w i x 1 (-1) 4) = cF p (fun _ => 0) (fourT w i x 1 (p - 1) 4) := by
  refine cF_eq h0 (by omega) (fun y hy => ?_) (fun y hy => ?_) (fun u => ?_)
  · have := (fourT_sm hw h2 h3 h4 h5 4 y hy).2; omega
  · have := (fourT_sm hw h2 h3 h4 h5 4 y hy).2; omega
  · obtain ⟨c, hc⟩ := fourT_wS w i x p u 4
    rw [hc, Int.add_mul_emod_self_left]
theorem sign_k {k : Nat} (h : k < 4) : w64 (1 - w64 (2 * ((k : Int).tmod 2))) = if k % 2 = 0 then 1 else -1 := by
  match k, h with
  | 0, _ => exact (by decide)
  | 1, _ => exact (by decide)
  | 2, _ => exact (by decide)
  | 3, _ => exact (by decide)
def sp_four : List Cv → List Obj' → Tree
  | [.one (.v (.int .i64 p)), .one (.ro (.int .i64) w), .one (.v (.int .i64 i)), .one (.v (.int .i64 x))], [] => .need (0 < p ∧ p ≤ 13 ∧ isW w = true ∧ 0 ≤ i ∧ i < ((w.length / 2 : Nat) : Int) ∧ 0 ≤ x ∧ x ≤ (w.length : Int))
      (.ret (.val (.agg [.v (.int .i64 p), .own 0])) [.drow 68 (.pr (.sl 2 (.int .i64)) (.int .i64)) (jS p (fourT w i x 1 (p - 1) 4))])
  | _, _ => .fail
set_option maxHeartbeats 4000000 in
set_option maxRecDepth 100000 in
theorem good_fourI : Good Try.prog 82 sp_four := by
  refine good_ofF Try.func82 rfl _ rfl _ rfl (tab [c_places, c_newG, c_gAdd, c_gSum, c_wc]) (fun X cs os0 K hok hos hK => ?_)
  clear hos; unfold sp_four at hK
  split at hK
  case h_2 => exact hK.elim
  rename_i p w i x
  refine ⟨by simp, by simp, ?_⟩
  simp only [go_sem] at hK hok
  simp (maxSteps := 4000000) only [go_sem, Try.f82, ↓brB_t, ↓brB_f, Nat.reduceAdd, Int.reduceLE, Int.reduceLT, Int.reduceNeg, decide_true, decide_false, Bool.and_self, Nat.succ_eq_add_one, Int.toNat_natCast, Nat.beq_refl, Bool.and_true, Bool.true_and, Bool.false_or, Bool.or_true, List.all_cons, List.all_nil, Nat.reduceMul, Nat.add_zero, Nat.zero_add, List.length_nil, List.length_cons, dite_true, List.nil_append, Nat.reduceBEq, reduceDIte, reduceIte, reduceCtorEq, Bool.or_false, Bool.true_or, Bool.and_false, Bool.false_and, Bool.not_true, Bool.not_false, Option.isSome_some, Option.isSome_none, Option.getD_some, List.getElem?_cons_zero, List.getElem?_cons_succ, eq_self, and_self, List.take_succ_cons, List.take_zero, List.drop_succ_cons, List.drop_zero]
  obtain ⟨⟨h1, h2, h3, h4, h5, h6, h7⟩, hK⟩ := hK
  clear hok
  have hl := isW_len h3
  obtain ⟨e1, e2, e3⟩ := ends_in h3 h4 h5
  rw [e1, e2]
  refine ⟨⟨by omega, two_of h3 h4 h5⟩, ?_⟩
  refine loop_okF (T := tab [c_places, c_newG, c_gAdd, c_gSum, c_wc]) [1, 3, 8, 11, 28, 29, 30] [(16, 144), (17, 352), (18, 353), (19, 464)] (fun k : Nat => ⟨52, [(1, ri w), (3, vi x), (8, .val (.one (.ptr 16 0))), (11, .val (.one (.ptr 17 0))), (28, .val (.one (.own 19))), (29, vi 4), (30, vi k)],
      [(16, .box tS' [.v (.int .i64 0), .v (.slice none 0 0)]), (17, oG p 18), (18, oM (gS p [] (fourT w i x 1 (-1) k))), (19, .row 3 (.int .i64) (endsL w i))]⟩)
    (fun k => k ≤ 4) (fun k => 4 - k) 0 rfl rfl (Nat.zero_le _) (fun k hk => ?_)
  have hm := mn_mx h6 h7 (e3 k).1 (e3 k).2
  have hgl := gS_len p (fourT w i x 1 (-1) k) []
  have hfl : (fourT w i x 1 (-1) k).length = k := by simp [fourT]
  simp only [go_sem, ↓brB_t, ↓brB_f, Nat.reduceAdd, Int.reduceLE, Int.reduceLT, Int.reduceNeg, decide_true, decide_false, Bool.and_self, Nat.succ_eq_add_one, Int.toNat_natCast, Nat.beq_refl, Bool.and_true, Bool.true_and, Bool.false_or, Bool.or_true, List.all_cons, List.all_nil, Nat.reduceMul, Nat.add_zero, Nat.zero_add, List.length_nil, List.length_cons, dite_true, List.nil_append, Nat.reduceBEq, reduceDIte, reduceIte, reduceCtorEq, Bool.or_false, Bool.true_or, Bool.and_false, Bool.false_and, Bool.not_true, Bool.not_false, Option.isSome_some, Option.isSome_none, Option.getD_some, List.getElem?_cons_zero, List.getElem?_cons_succ, eq_self, and_self, List.take_succ_cons, List.take_zero, List.drop_succ_cons, List.drop_zero]
  refine brB_intro (fun h8 => ?_) (fun h8 => ?_)
  · have h8 := of_decide_eq_true h8
    have hsm := addL_sm h3 (p := (mn x ((endsL w i).getD k 0)).toNat) (q := (mx x ((endsL w i).getD k 0)).toNat) (by omega) (by omega)
    have hk1 : w64 ((k : Int) + 1) = ((k + 1 : Nat) : Int) := w64_s (n := 4) (by omega) (by omega)
    rw [sign_k (by omega), hk1]
    refine ⟨⟨by omega, by show (k : Int) < 4; omega⟩, ⟨h3, hm.1, hm.2.1, hm.2.2⟩, by decide, ⟨by omega, by have := hsm.1; omega, by simp only [List.length_nil] at hgl; omega, trivial⟩, k + 1, [(16, 16), (17, 17), (18, 18), (19, 19)], by omega, by omega, rfl, ?_⟩
    rw [fourT_s, gS_app p [] _ [_]]
    rfl
  · have h8 := of_decide_eq_false h8
    have e : k = 4 := by omega
    subst e
    have hsm : ∀ y ∈ fourT w i x 1 (-1) 4, smB y.1 := fun y hy => (fourT_sm h3 h4 h5 h6 h7 4 y hy).1
    have hsm2 : ∀ y ∈ fourT w i x 1 (p - 1) 4, smB y.1 := fun y hy => (fourT_sm h3 h4 h5 h6 h7 4 y hy).1
    have hc := gS_rep p (fourT w i x 1 (-1) 4) [] _ GRep.nil hsm
    rw [fourT_cF h1 h2 h3 h4 h5 h6 h7] at hc
    have e : sortT (nzT (gS p [] (fourT w i x 1 (-1) 4))) = jS p (fourT w i x 1 (p - 1) 4) := hc.sum (jS_rep p _ hsm2)
    refine ⟨⟨by simp only [List.length_nil] at hgl; omega, fun x hx => by have := (hc.key x hx).2.1; omega, hc.words⟩, retN [832] rfl ?_⟩
    rw [← e] at hK
    exact hK
def c_fourI : Ctr Try.prog := ⟨82, ent Try.func82 rfl rfl, [], sp_four, good_fourI, []⟩
@[go_sem] theorem c_fourI_f : c_fourI.f = 82 := rfl
@[go_sem] theorem c_fourI_ms : c_fourI.ms = [] := rfl
@[go_sem] theorem c_fourI_sp : c_fourI.spec = sp_four := rfl
@[go_sem] theorem c_fourI_fz : c_fourI.fz = [] := rfl
attribute [go_sem] sp_four
set_option maxHeartbeats 4000000 in
set_option maxRecDepth 100000 in
theorem good_fourS : Good Try.prog 76 sp_four := by
  refine good_ofF Try.func76 rfl _ rfl _ rfl (tab [c_l01Places, c_l03Empty, c_l03Put, c_addS]) (fun X cs os0 K hok hos hK => ?_)
  clear hos; unfold sp_four at hK
  split at hK
  case h_2 => exact hK.elim
  rename_i p w i x
  refine ⟨by simp, by simp, ?_⟩
  simp only [go_sem] at hK hok
  simp (maxSteps := 4000000) only [go_sem, Try.f76, ↓brB_t, ↓brB_f, Nat.reduceAdd, Int.reduceLE, Int.reduceLT, Int.reduceNeg, decide_true, decide_false, Bool.and_self, Nat.succ_eq_add_one, Int.toNat_natCast, Nat.beq_refl, Bool.and_true, Bool.true_and, Bool.false_or, Bool.or_true, List.all_cons, List.all_nil, Nat.reduceMul, Nat.add_zero, Nat.zero_add, List.length_nil, List.length_cons, dite_true, List.nil_append, Nat.reduceBEq, reduceDIte, reduceIte, reduceCtorEq, Bool.or_false, Bool.true_or, Bool.and_false, Bool.false_and, Bool.not_true, Bool.not_false, Option.isSome_some, Option.isSome_none, Option.getD_some, List.getElem?_cons_zero, List.getElem?_cons_succ, eq_self, and_self, List.take_succ_cons, List.take_zero, List.drop_succ_cons, List.drop_zero]
  obtain ⟨⟨h1, h2, h3, h4, h5, h6, h7⟩, hK⟩ := hK
  clear hok
  have hl := isW_len h3
  obtain ⟨e1, e2, e3⟩ := ends_in h3 h4 h5
  rw [e1, e2]
  have ep : w64 (p - 1) = p - 1 := w64_id (by omega) (by omega)
  rw [ep]
  refine ⟨⟨by omega, two_of h3 h4 h5⟩, ?_⟩
  refine loop_okF (T := tab [c_l01Places, c_l03Empty, c_l03Put, c_addS]) [1, 3, 8, 11, 12, 13, 14] [(16, 144), (17, 192), (18, 368), (19, 480), (20, 560)] (fun k : Nat => ⟨60, [(1, ri w), (3, vi x), (8, .val (.one (.ptr 16 0))), (11, .val (.one (.ptr 17 0))), (12, .val (.one (.own 19))), (13, .val (.one (.own 20))), (14, vi k)],
      [(16, .box tS' [.v (.int .i64 0), .v (.slice none 0 0)]), (17, .box tS' [.v (.int .i64 p), .own 18]), (18, .drow tI kTerm (jS p (fourT w i x 1 (p - 1) k))), (19, rwi (endsL w i)), (20, rwi [1, p - 1, 1, p - 1])]⟩)
    (fun k => k ≤ 4) (fun k => 4 - k) 0 rfl rfl (Nat.zero_le _) (fun k hk => ?_)
  have hm := mn_mx h6 h7 (e3 k).1 (e3 k).2
  have hjl := jS_len p (fourT w i x 1 (p - 1) k)
  have hfl : (fourT w i x 1 (p - 1) k).length = k := by simp [fourT]
  have hjw := jS_q (p := p) (q := fun u => u.length ≤ 24) (ts := fourT w i x 1 (p - 1) k) (fun y hy => (fourT_sm h3 h4 h5 h6 h7 k y hy).1.1)
  simp only [go_sem, ↓brB_t, ↓brB_f, Nat.reduceAdd, Int.reduceLE, Int.reduceLT, Int.reduceNeg, decide_true, decide_false, Bool.and_self, Nat.succ_eq_add_one, Int.toNat_natCast, Nat.beq_refl, Bool.and_true, Bool.true_and, Bool.false_or, Bool.or_true, List.all_cons, List.all_nil, Nat.reduceMul, Nat.add_zero, Nat.zero_add, List.length_nil, List.length_cons, dite_true, List.nil_append, Nat.reduceBEq, reduceDIte, reduceIte, reduceCtorEq, Bool.or_false, Bool.true_or, Bool.and_false, Bool.false_and, Bool.not_true, Bool.not_false, Option.isSome_some, Option.isSome_none, Option.getD_some, List.getElem?_cons_zero, List.getElem?_cons_succ, eq_self, and_self, List.take_succ_cons, List.take_zero, List.drop_succ_cons, List.drop_zero]
  refine brB_intro (fun h8 => ?_) (fun h8 => ?_)
  · have h8 := of_decide_eq_true h8
    have hsm := addL_sm h3 (p := (mn x ((endsL w i).getD k 0)).toNat) (q := (mx x ((endsL w i).getD k 0)).toNat) (by omega) (by omega)
    have hk1 : w64 ((k : Int) + 1) = ((k + 1 : Nat) : Int) := w64_s (n := 4) (by omega) (by omega)
    have es : [1, p - 1, 1, p - 1].getD k 0 = if k % 2 = 0 then 1 else p - 1 := by
      match k, (show k < 4 by omega) with
      | 0, _ => rfl
      | 1, _ => rfl
      | 2, _ => rfl
      | 3, _ => rfl
    refine ⟨⟨by omega, by show (k : Int) < 4; omega⟩, ⟨by omega, by show (k : Int) < 4; omega⟩, ⟨h3, hm.1, hm.2.1, hm.2.2⟩, ⟨by omega, by show (k : Int) < 4; omega⟩, ⟨by omega, by omega, by have := hsm.1; omega, fun y hy => by have := hjw y hy; omega⟩, by kernel_rfl, k + 1, [(16, 16), (17, 17), (18, 944), (19, 19), (20, 20)], by omega, by omega, rfl, ?_⟩
    rw [hk1, fourT_s, jS_s, ← es]
    rfl
  · have h8 := of_decide_eq_false h8
    have e : k = 4 := by omega
    subst e
    exact retN [18] rfl hK
def c_fourS : Ctr Try.prog := ⟨76, ent Try.func76 rfl rfl, [], sp_four, good_fourS, []⟩
@[go_sem] theorem c_fourS_f : c_fourS.f = 76 := rfl
@[go_sem] theorem c_fourS_ms : c_fourS.ms = [] := rfl
@[go_sem] theorem c_fourS_sp : c_fourS.spec = sp_four := rfl
@[go_sem] theorem c_fourS_fz : c_fourS.fz = [] := rfl
attribute [go_sem] sp_four
end Go.Proofs.Ytokakggilajjlaa.V
