/- Contract of the law of AddKink. Conditions: told by each spec. -/
import Derived.Test.YtihfncjpfgdhoaaVW9
set_option linter.unusedVariables false
set_option linter.unusedSimpArgs false
namespace Go.Proofs.Ytihfncjpfgdhoaa.V
open Go
attribute [go_sem] resG marks_length
def sp_lawGiii : List Cv → List Obj' → Tree
  | [.agg [.ro (.int .i64) w, .ro (.int .i64) hs, .ro (.int .i64) ss], .one (.v (.int .i64 p)), .one (.v (.int .i64 h)), .one (.v (.int .i64 s))], [] => .ret (vb true) []
  | _, _ => .fail
theorem firsts_len (l hs : List Int) : (Go.Proofs.Ytihfncjpfgdhoaa.K.firsts l hs).length ≤ l.length := by
  unfold Go.Proofs.Ytihfncjpfgdhoaa.K.firsts
  rw [List.length_map]
  simpa using metBy_length l []
theorem kinkR_len (w hs ss : List Int) (p h s : Int) : (kinkR w hs ss p h s).1.1.length ≤ 1048576 ∧ (kinkR w hs ss p h s).1.2.1.length ≤ 1048576 ∧ (kinkR w hs ss p h s).1.2.2.length ≤ 1048576 := by
  unfold kinkR
  split
  · rename_i g
    obtain ⟨g1, g2, g3⟩ := Go.Proofs.Ytihfncjpfgdhoaa.L.gauss_parts g
    obtain ⟨w1, w2⟩ := Go.Proofs.Ytihfncjpfgdhoaa.L.word_range g1
    split
    · split
      · exact ⟨by decide, by decide, by decide⟩
      · have e : (Go.Proofs.Ytihfncjpfgdhoaa.K.insL w [(ss.length : Int), ss.length] p.toNat).length ≤ 14 := by rw [Go.Proofs.Ytihfncjpfgdhoaa.K.insL_length]; simp only [List.length_cons, List.length_nil]; omega
        refine ⟨?_, Nat.le_trans (firsts_len _ _) (by omega), Nat.le_trans (firsts_len _ _) (by omega)⟩
        show (Go.Proofs.Ytihfncjpfgdhoaa.K.normFrom _ _).length ≤ _
        rw [Go.Proofs.Ytihfncjpfgdhoaa.K.normFrom_length]; omega
    · exact ⟨by decide, by decide, by decide⟩
  · exact ⟨by decide, by decide, by decide⟩
set_option maxHeartbeats 4000000 in
set_option maxRecDepth 10000 in
theorem good_lawAddKink : Good Try.prog 9 sp_lawGiii := by
  refine good_ofF Try.func9 rfl _ rfl _ rfl (tab [c_szG, c_toG, c_addKinkS, c_addKinkI, c_eqG, c_markG, c_heldG]) (fun X cs os0 K hok hos hK => ?_)
  clear hos; unfold sp_lawGiii at hK
  split at hK
  case h_2 => exact hK.elim
  rename_i w hs ss p h s
  refine ⟨by simp, by simp, ?_⟩
  simp only [go_sem] at hK hok
  simp (maxSteps := 4000000) only [go_sem, Try.f9, ↓brB_t, ↓brB_f, Nat.reduceAdd, Int.reduceLE, Int.reduceLT, Int.reduceNeg, decide_true, decide_false, Bool.and_self, Nat.succ_eq_add_one, Int.toNat_natCast, Nat.beq_refl, Bool.and_true, Bool.true_and, Bool.false_or, Bool.or_true, List.all_cons, List.all_nil, Nat.reduceMul, Nat.add_zero, Nat.zero_add, List.length_nil, List.length_cons, dite_true, List.nil_append, Nat.reduceBEq, reduceDIte, reduceIte, reduceCtorEq, Bool.or_false, Bool.true_or, Bool.and_false, Bool.false_and, Bool.not_true, Bool.not_false, Option.isSome_some, Option.isSome_none, Option.getD_some, List.getElem?_cons_zero, List.getElem?_cons_succ, eq_self, and_self]
  obtain ⟨r1, r2, r3⟩ := kinkR_len w hs ss p h s
  generalize kinkR w hs ss p h s = r at *
  refine ⟨trivial, brB_intro (fun _ => ret0 hK) (fun h1 => ?_)⟩
  have hz : (w.length : Int) + hs.length + ss.length ≤ 1048576 := by
    have h1 := of_decide_eq_false h1; split at h1 <;> omega
  have a1 : w.length ≤ 1099511627776 ∧ hs.length ≤ 1099511627776 ∧ ss.length ≤ 1099511627776 := ⟨by omega, by omega, by omega⟩
  refine ⟨a1, a1, a1, by kernel_rfl, ⟨trivial, by omega⟩, brB_intro (fun h2 => by have := of_decide_eq_true h2; omega) (fun _ => ⟨⟨trivial, by omega⟩, ⟨trivial, by omega⟩, brB_intro (fun h2 => by have := of_decide_eq_true h2; omega) (fun _ => ⟨a1, ⟨trivial, by omega⟩, brB_intro (fun h2 => by have := of_decide_eq_true h2; omega) (fun _ => ret0 hK)⟩)⟩)⟩
def c_lawAddKink : Ctr Try.prog := ⟨9, ent Try.func9 rfl rfl, [], sp_lawGiii, good_lawAddKink⟩
@[go_sem] theorem c_lawAddKink_f : c_lawAddKink.f = 9 := rfl
@[go_sem] theorem c_lawAddKink_ms : c_lawAddKink.ms = [] := rfl
@[go_sem] theorem c_lawAddKink_sp : c_lawAddKink.spec = sp_lawGiii := rfl
attribute [go_sem] sp_lawGiii
end Go.Proofs.Ytihfncjpfgdhoaa.V
