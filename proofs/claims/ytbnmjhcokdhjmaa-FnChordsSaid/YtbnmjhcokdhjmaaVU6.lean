/- Contracts: the law of chords. Conditions: told by its spec. -/
import Derived.Test.YtbnmjhcokdhjmaaVU4
set_option linter.unusedVariables false
set_option linter.unusedSimpArgs false
namespace Go.Proofs.Ytbnmjhcokdhjmaa.V
open Go
def sp_lawC : List Cv → List Obj' → Tree
  | [.one (.ro (.int .u8) code)], [] => .ret (vb true) []
  | _, _ => .fail
theorem row_01 (d : List Int) (n i : Nat) : (crRow d n i).length = n ∧ ∀ x ∈ crRow d n i, 0 ≤ x ∧ x ≤ 1 := by
  refine ⟨by rw [crRow, List.length_map, List.length_range], fun x hx => ?_⟩
  obtain ⟨k, _, rfl⟩ := List.mem_map.1 hx
  exact crI_01 d i k
theorem rN_le (d : List Int) (n : Nat) : ∀ i : Nat, 0 ≤ rN (crI d) i n ∧ rN (crI d) i n ≤ (i : Int) * (n : Int)
  | 0 => by simp [rN]
  | i + 1 => by
    have h1 := rN_le d n i
    have h2 := sum_le (crRow d n i) (row_01 d n i).2
    rw [(row_01 d n i).1] at h2
    have e : rN (crI d) (i + 1) n = rN (crI d) i n + (crRow d n i).sum := rsum_s _ i
    rw [e, Int.natCast_add, Int.add_mul]
    have : ((1 : Nat) : Int) * (n : Int) = n := by simp
    omega
attribute [go_sem] resU
set_option maxHeartbeats 4000000 in
set_option maxRecDepth 100000 in
theorem good_lawFnChords : Good Try.prog 4 sp_lawC := by
  refine good_ofF Try.func4 rfl _ rfl _ rfl (tab [c_big, c_dAdd, c_acI, c_acS, c_likeI, c_dcI, c_dJoin, c_jwI, c_jwS, c_ccI, c_dWoc, c_wocI, c_wocS, c_dRows, c_crI, c_crS, c_rows5, c_sum, c_dDel, c_dcS, c_dPo, c_poI, c_poS, c_dNw, c_nwI, c_nwS]) (fun X cs os0 K hok hos hK => ?_)
  clear hos; unfold sp_lawC at hK
  split at hK
  case h_2 => exact hK.elim
  rename_i code
  refine ⟨by simp, by simp, ?_⟩
  simp only [go_sem] at hK hok
  simp (maxSteps := 4000000) only [go_sem, Try.f4, ↓brB_t, ↓brB_f, Nat.reduceAdd, Int.reduceLE, Int.reduceLT, Int.reduceNeg, decide_true, decide_false, Bool.and_self, Nat.succ_eq_add_one, Int.toNat_natCast, Nat.beq_refl, Bool.and_true, Bool.true_and, Bool.false_or, Bool.or_true, List.all_cons, List.all_nil, Nat.reduceMul, Nat.add_zero, Nat.zero_add, List.length_nil, List.length_cons, dite_true, List.nil_append, Nat.reduceBEq, reduceDIte, reduceIte, reduceCtorEq, Bool.or_false, Bool.true_or, Bool.and_false, Bool.false_and, Bool.not_true, Bool.not_false, Option.isSome_some, Option.isSome_none, Option.getD_some, List.getElem?_cons_zero, List.getElem?_cons_succ, eq_self, and_self, List.take_succ_cons, List.take_zero, List.drop_succ_cons, List.drop_zero]
  have hcb : ∀ x ∈ (code : List Int), 0 ≤ x ∧ x ≤ 255 := hok.1.2
  clear hok
  refine brB_intro (fun _ => ret0 hK) (fun h1 => ?_)
  have hc : okC code := ⟨by have := of_decide_eq_false h1; omega, hcb⟩
  clear h1 hcb
  have no : ∀ {b : Bool} {p : Prop}, b = true → (!b) = true → p := fun h h' => by rw [h] at h'; cases h'
  refine ⟨hc, fun w hw pq _ => brB_intro (fun h2 => ?_) (fun h2 => ?_)⟩
  case' refine_1 =>
    have s1 := stage1 (of_decide_eq_true h2)
    refine ⟨s1.2, brB_intro (fun h => no (decide_eq_true (by rw [s1.1])) h) (fun _ => brB_intro (fun h => no (decide_eq_true (by rw [s1.1])) h) (fun _ => ?_))⟩
    clear s1
  all_goals
    clear h2
    refine ⟨hc, fun a ha b hb => ⟨⟨by omega, by omega⟩, ⟨by omega, by omega⟩, brB_intro (fun h2 => ?_) (fun h2 => ?_)⟩⟩
    case' refine_1 =>
      have s2 := stage2 (of_decide_eq_true h2)
      refine brB_intro (fun h => no (decide_eq_true s2.1) h) (fun _ => brB_intro (fun h => no (decide_eq_true s2.2.1) h) (fun _ => brB_intro (fun h => no (decide_eq_true s2.2.2.1) h) (fun _ => brB_intro (fun h => no (decide_eq_true s2.2.2.2) h) (fun _ => ?_))))
      clear s2
    all_goals
      clear h2
      refine ⟨hc, fun u hu l hl => ⟨by omega, by omega, brB_intro (fun h2 => ?_) (fun h2 => ?_)⟩⟩
      case' refine_1 =>
        have s3 := stage3 (w := u) (l := l) (by omega) (of_decide_eq_true h2)
        refine brB_intro (fun h => no (decide_eq_true s3) h) (fun _ => ?_)
        clear s3
      all_goals
        clear h2
        refine ⟨hc, fun d hd => brB_intro (fun h2 => ?_) (fun h2 => ?_)⟩
        case' refine_1 =>
          obtain ⟨dw, dr⟩ := stage4 (of_decide_eq_true h2)
          have dl := y_len dw
          obtain ⟨d1, d2, d3⟩ := stage5 dw
          have rl : (crR d).1.length = d.length / 2 := by rw [dr, crRows, List.length_map, List.length_range]
          refine loop_okF (T := tab [c_big, c_dAdd, c_acI, c_acS, c_likeI, c_dcI, c_dJoin, c_jwI, c_jwS, c_ccI, c_dWoc, c_wocI, c_wocS, c_dRows, c_crI, c_crS, c_rows5, c_sum, c_dDel, c_dcS, c_dPo, c_poI, c_poS, c_dNw, c_nwI, c_nwS]) [0, 30, 31, 35, 36, 37] [(16, 3696)] (fun i : Nat => ⟨351, [(0, .val (.one (.ro (.int .u8) code))), (30, ri d), (31, .val (.one (.ro kR (crR d).1))), (35, vi (rN (crI d) i (d.length / 2))), (36, ow 16), (37, vi i)], [(16, rwi (upN i))]⟩)
            (fun i => i ≤ d.length / 2) (fun i => d.length / 2 - i) 0 rfl rfl (Nat.zero_le _) (fun i hi => ?_)
          have rn := rN_le d (d.length / 2) i
          have rs : rN (crI d) (i + 1) (d.length / 2) = rN (crI d) i (d.length / 2) + (crRow d (d.length / 2) i).sum := rsum_s _ i
          simp only [go_sem, ↓brB_t, ↓brB_f, Nat.reduceAdd, Int.reduceLE, Int.reduceLT, Int.reduceNeg, decide_true, decide_false, Bool.and_self, Nat.succ_eq_add_one, Int.toNat_natCast, Nat.beq_refl, Bool.and_true, Bool.true_and, Bool.false_or, Bool.or_true, List.all_cons, List.all_nil, Nat.reduceMul, Nat.add_zero, Nat.zero_add, List.length_nil, List.length_cons, dite_true, List.nil_append, Nat.reduceBEq, reduceDIte, reduceIte, reduceCtorEq, Bool.or_false, Bool.true_or, Bool.and_false, Bool.false_and, Bool.not_true, Bool.not_false, Option.isSome_some, Option.isSome_none, Option.getD_some, List.getElem?_cons_zero, List.getElem?_cons_succ, eq_self, and_self, List.take_succ_cons, List.take_zero, List.drop_succ_cons, List.drop_zero]
          rw [rl]
          refine brB_intro (fun h3 => ?_) (fun h3 => ?_)
          case refine_1 =>
            have h3 := of_decide_eq_true h3
            have rg : (crR d).1.getD i [] = crRow d (d.length / 2) i := by rw [dr]; exact row_at (by omega)
            have rb := row_01 d (d.length / 2) i
            have rsb := sum_le (crRow d (d.length / 2) i) rb.2
            rw [rb.1] at rsb
            have i6 : i * (d.length / 2) ≤ 6 * 6 := Nat.mul_le_mul (by omega) (by omega)
            have i6' : ((i : Nat) : Int) * ((d.length / 2 : Nat) : Int) ≤ 36 := by exact_mod_cast i6
            have e : w64 (rN (crI d) i (d.length / 2) + (crRow d (d.length / 2) i).sum) = rN (crI d) (i + 1) (d.length / 2) := by rw [rs, w64_id (by omega) (by omega)]
            rw [rg, e, show w64 ((i : Int) + 1) = ((i + 1 : Nat) : Int) from w64_s (n := 12) (by omega) (by omega), ← upN_s]
            exact ⟨⟨by omega, by omega⟩, ⟨by rw [rb.1]; omega, rb.2⟩, by rw [upN_len]; omega, i + 1, [(16, 3968)], by omega, by omega, rfl, rfl⟩
          case' refine_2 =>
            have h3 := of_decide_eq_false h3
            have ei : i = d.length / 2 := by omega
            subst ei
            refine ⟨by rw [upN_len]; omega, brB_intro (fun h => no (decide_eq_true d1) h) (fun _ => brB_intro (fun h => no (decide_eq_true (by rw [d2])) h) (fun _ => brB_intro (fun h => no (decide_eq_true d3) h) (fun _ => brB_intro (fun h => no (decide_eq_true (by rw [d2])) h) (fun _ => ?_))))⟩
            clear d1 d2 d3 rl rn rs dr dl dw h3
        all_goals
          clear h2
          exact ⟨hc, fun e he i _ => ⟨hc, fun f hf k _ => ⟨hc, fun l hl => ret0 hK⟩⟩⟩
end Go.Proofs.Ytbnmjhcokdhjmaa.V
