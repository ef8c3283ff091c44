/- Contracts: words that seldom are none. Conditions: told by each spec. -/
import Derived.Test.YtbnmjhcokdhjmaaVU0
set_option linter.unusedVariables false
set_option linter.unusedSimpArgs false
namespace Go.Proofs.Ytbnmjhcokdhjmaa.V
open Go
theorem good_weak {P : Program} {f : FuncId} {sp sp' : List Cv → List Obj' → Tree} (hg : Good P f sp') (h : ∀ cs os (K : Rv → List Obj' → Prop), (sp cs os).run K → (sp' cs os).run K) : Good P f sp :=
  fun E0 cs os0 vs K hF hD h16 hO hdis hnof ha hK => hg E0 cs os0 vs K hF hD h16 hO hdis hnof ha (h cs os0 K hK)
def sp_joinY : List Cv → List Obj' → Tree
  | [.one (.ro (.int .i64) a), .one (.ro (.int .i64) b)], [] => .need (a.length ≤ 100 ∧ b.length ≤ 100) (.any (fun y => y.length = a.length + b.length) fun y => .ret (ow 0) [rwi y])
  | _, _ => .fail
theorem good_joinY : Good Try.prog 70 sp_joinY := good_weak good_joinS fun cs os K h => by
  unfold sp_joinY at h
  split at h
  · rename_i a b
    obtain ⟨⟨h1, h2⟩, hK⟩ := h
    exact ⟨⟨by omega, by omega⟩, hK _ (joL_len a b)⟩
  · exact h.elim
def c_joinY : Ctr Try.prog := ⟨70, ent Try.func70 rfl rfl, [], sp_joinY, good_joinY, []⟩
@[go_sem] theorem c_joinY_f : c_joinY.f = 70 := rfl
@[go_sem] theorem c_joinY_ms : c_joinY.ms = [] := rfl
@[go_sem] theorem c_joinY_sp : c_joinY.spec = sp_joinY := rfl
@[go_sem] theorem c_joinY_fz : c_joinY.fz = [] := rfl
attribute [go_sem] sp_joinY
def sp_bad : List Cv → List Obj' → Tree
  | [.one (.ptr 0 0), .one (.ro (.int .i64) w)], [.box t [.ro (.int .u8) code, .v (.int .i64 at'), .v (.int .u64 h)]] => .need (okC code ∧ (0 ≤ at' ∧ at' ≤ (code.length : Int)) ∧ (w : List Int).length ≤ 12) (.any (fun y => y.length ≤ 40) fun y => .any (fun x => srcP (code : List Int).length x) fun x => .ret (.val (.one (.ro (.int .i64) y))) [.box t [.ro (.int .u8) code, .v (.int .i64 (x.getD 1 0)), .v (.int .u64 (x.getD 2 0))]])
  | _, _ => .fail
set_option maxHeartbeats 4000000 in
set_option maxRecDepth 100000 in
theorem good_bad : Good Try.prog 64 sp_bad := by
  refine good_ofF Try.func64 rfl _ rfl _ rfl (tab [c_next, c_own, c_pick, c_joinY]) (fun X cs os0 K hok hos hK => ?_)
  unfold sp_bad at hK
  split at hK
  case h_2 => exact hK.elim
  rename_i w t code a h
  refine ⟨by simp, by simp, ?_⟩
  simp only [go_sem] at hK hok hos
  simp (maxSteps := 4000000) only [go_sem, Try.f64, ↓brB_t, ↓brB_f, Nat.reduceAdd, Int.reduceLE, Int.reduceLT, Int.reduceNeg, decide_true, decide_false, Bool.and_self, Nat.succ_eq_add_one, Int.toNat_natCast, Nat.beq_refl, Bool.and_true, Bool.true_and, Bool.false_or, Bool.or_true, List.all_cons, List.all_nil, Nat.reduceMul, Nat.add_zero, Nat.zero_add, List.length_nil, List.length_cons, dite_true, List.nil_append, Nat.reduceBEq, reduceDIte, reduceIte, reduceCtorEq, Bool.or_false, Bool.true_or, Bool.and_false, Bool.false_and, Bool.not_true, Bool.not_false, Option.isSome_some, Option.isSome_none, Option.getD_some, List.getElem?_cons_zero, List.getElem?_cons_succ, eq_self, and_self, List.take_succ_cons, List.take_zero, List.drop_succ_cons, List.drop_zero]
  obtain ⟨⟨h1, h2, h3⟩, hK⟩ := hK
  clear hok
  refine ⟨⟨h1, h2⟩, fun x hx => brB_intro (fun h4 => ⟨by omega, by decide, ⟨h1, hx.2, by decide, by decide⟩, fun y hy => ⟨by omega, retN [0] rfl (hK (w ++ [y.getD 0 0]) (by rw [List.length_append, List.length_singleton]; omega) y hy.2)⟩⟩) (fun _ => brB_intro (fun h4 => ?_) (fun _ => brB_intro (fun h4 => ?_) (fun _ => brB_intro (fun h4 => ?_) (fun _ => retN [0] rfl (hK w (by omega) x hx.2)))))⟩
  · exact ⟨by omega, brB_intro (fun h5 => ⟨⟨h1, hx.2⟩, fun y hy => ⟨⟨h1, hy.2, by decide, by decide⟩, fun z hz => ⟨⟨hy.1.1, hy.1.2.2 (by have := of_decide_eq_true h5; omega)⟩, retN [0] rfl (hK ((w : List Int).set (y.getD 0 0).toNat (z.getD 0 0)) (by rw [List.length_set]; omega) z hz.2)⟩⟩⟩) (fun _ => retN [0] rfl (hK w (by omega) x hx.2))⟩
  · refine ⟨by omega, ?_⟩
    refine loop_okF (T := tab [c_next, c_own, c_pick, c_joinY]) [0, 7, 8] [(0, 0), (16, 704)] (fun s : Nat × List Int => ⟨67, [(0, .val (.one (.ptr 0 0))), (7, ow 16), (8, vi s.1)], [(0, .box t [.ro (.int .u8) code, .v (.int .i64 (x.getD 1 0)), .v (.int .u64 (x.getD 2 0))]), (16, rwi s.2)]⟩)
      (fun s => s.1 ≤ w.length ∧ s.2.length = w.length) (fun s => w.length - s.1) (0, w) rfl rfl ⟨Nat.zero_le _, rfl⟩ (fun s hs => ?_)
    obtain ⟨i, u⟩ := s
    obtain ⟨hi, hu⟩ := hs
    have hi : i ≤ w.length := hi
    have hu : u.length = w.length := hu
    simp only [go_sem, ↓brB_t, ↓brB_f, Nat.reduceAdd, Int.reduceLE, Int.reduceLT, Int.reduceNeg, decide_true, decide_false, Bool.and_self, Nat.succ_eq_add_one, Int.toNat_natCast, Nat.beq_refl, Bool.and_true, Bool.true_and, Bool.false_or, Bool.or_true, List.all_cons, List.all_nil, Nat.reduceMul, Nat.add_zero, Nat.zero_add, List.length_nil, List.length_cons, dite_true, List.nil_append, Nat.reduceBEq, reduceDIte, reduceIte, reduceCtorEq, Bool.or_false, Bool.true_or, Bool.and_false, Bool.false_and, Bool.not_true, Bool.not_false, Option.isSome_some, Option.isSome_none, Option.getD_some, List.getElem?_cons_zero, List.getElem?_cons_succ, eq_self, and_self, List.take_succ_cons, List.take_zero, List.drop_succ_cons, List.drop_zero]
    refine brB_intro (fun h5 => ?_) (fun h5 => retN [0] rfl (hK u (by omega) x hx.2))
    have h5 := of_decide_eq_true h5
    rw [show w64 ((i : Int) + 1) = ((i + 1 : Nat) : Int) from w64_s (n := 12) (by omega) (by omega)]
    exact ⟨⟨by omega, by omega⟩, ⟨by omega, by omega⟩, (i + 1, u.set i (w64 (u.getD i 0 + 1))), [(0, 0), (16, 16)], ⟨by show i + 1 ≤ w.length; omega, by show (u.set i _).length = w.length; rw [List.length_set]; exact hu⟩, by show w.length - (i + 1) < w.length - i; omega, rfl, rfl⟩
  · exact ⟨by omega, fun y hy => ⟨⟨by omega, by decide⟩, fun z hz => retN [0] rfl (hK z (by omega) x hx.2)⟩⟩
def c_bad : Ctr Try.prog := ⟨64, ent Try.func64 rfl rfl, [true, false], sp_bad, good_bad, [false, true]⟩
@[go_sem] theorem c_bad_f : c_bad.f = 64 := rfl
@[go_sem] theorem c_bad_ms : c_bad.ms = [true, false] := rfl
@[go_sem] theorem c_bad_sp : c_bad.spec = sp_bad := rfl
@[go_sem] theorem c_bad_fz : c_bad.fz = [false, true] := rfl
attribute [go_sem] sp_bad
end Go.Proofs.Ytbnmjhcokdhjmaa.V
