/- Contracts: impl.inserted. Conditions: told by each spec. -/
import Derived.Test.YtbnmjhcokdhjmaaVL
import Derived.Test.YtbnmjhcokdhjmaaKInsert
set_option linter.unusedVariables false
set_option linter.unusedSimpArgs false
set_option linter.unusedSectionVars false
namespace Go.Proofs.Ytbnmjhcokdhjmaa.L
open Go Go.RowKit Go.Proofs.YtbnmjhcokdhjmaaW.PrintWords Go.Proofs.YtbnmjhcokdhjmaaW.PrintLast Go.Proofs.YtbnmjhcokdhjmaaW.PrintMore Go.Proofs.Ytbnmjhcokdhjmaa.K
theorem ins_twice (w : List Int) (x : Int) (p q : Nat) (hpq : p ≤ q) (hq : q ≤ w.length) : insL (insL w [x] q) [x] p = w.take p ++ [x] ++ (w.take q).drop p ++ [x] ++ w.drop q := by
  unfold insL
  have hl : (w.take q).length = q := by rw [List.length_take]; omega
  have h1 : (w.take q ++ [x] ++ w.drop q).take p = w.take p := by
    rw [List.append_assoc, List.take_append_of_le_length (by omega), List.take_take, Nat.min_eq_left hpq]
  have h2 : (w.take q ++ [x] ++ w.drop q).drop p = (w.take q).drop p ++ [x] ++ w.drop q := by
    rw [List.append_assoc, List.drop_append_of_le_length (by omega), List.append_assoc]
  rw [h1, h2]
  simp [List.append_assoc]

end Go.Proofs.Ytbnmjhcokdhjmaa.L
namespace Go.Proofs.Ytbnmjhcokdhjmaa.V
open Go
open Go.RowKit Go.Proofs.YtbnmjhcokdhjmaaW.PrintWords Go.Proofs.YtbnmjhcokdhjmaaW.PrintLast Go.Proofs.YtbnmjhcokdhjmaaW.PrintMore
theorem insL_len {w m : List Int} {i : Nat} (h : i ≤ w.length) : (Go.Proofs.Ytbnmjhcokdhjmaa.K.insL w m i).length = w.length + m.length := by
  unfold Go.Proofs.Ytbnmjhcokdhjmaa.K.insL
  rw [List.length_append, List.length_append, List.length_take, List.length_drop]; omega
/-! ### impl.inserted: its numbers lie in a row of the caller's own -/
def sp_inserted : List Cv → List Obj' → Tree
  | [.one (.ro (.int .i64) l), .one (.v (.int .i64 i)), .one (.own 0)], [.row 2 (.int .i64) vs] => .need (0 ≤ i ∧ i ≤ l.length ∧ 0 < vs.length ∧ l.length + vs.length < 1099511627776) (.ret (ow 1) [rwi vs, rwi (K.insL l vs i.toNat)])
  | _, _ => .fail
theorem insL_mem {l vs : List Int} {i : Nat} {x : Int} (h : x ∈ K.insL l vs i) : x ∈ l ∨ x ∈ vs := by
  unfold K.insL at h
  rcases List.mem_append.1 h with h | h
  · rcases List.mem_append.1 h with h | h
    · exact .inl (List.mem_of_mem_take h)
    · exact .inr h
  · exact .inl (List.mem_of_mem_drop h)
theorem good_inserted : Good Try.prog 111 sp_inserted := by
  intro E0 cs os0 vs Kc hF hD h16 hO hdis hnof ha hK
  have hI := Inv.enter hF hD h16 hO hdis hnof
  have hok := okCs_of ha
  unfold sp_inserted at hK
  split at hK
  case h_2 => exact hK.elim
  rename_i l i ns
  obtain ⟨u1, u2, u3, rfl, hu1, hu2, hu3⟩ := three_args ha
  obtain ⟨a1, c1, rfl, hc1, hr1⟩ := read_of hu1.1
  obtain ⟨⟨rfl, _⟩, _⟩ := hu2
  obtain ⟨⟨hD0, rfl⟩, hone⟩ := hu3
  obtain ⟨⟨h0, h1, h2, h3⟩, hK⟩ := hK
  obtain ⟨⟨xs, k1, k2, k3, k4⟩, _⟩ := hO 0 (by simp)
  have hRI := row_to k1 k2
  obtain ⟨A2, c2, e2⟩ : ∃ A c, E0.σ 0 = .slice A ns.length c := by
    obtain ⟨ad, c, e, _⟩ := own_cells k1
    exact ⟨ad, c, e⟩
  simp only [okCs, okA, okK] at hok
  obtain ⟨m, rfl⟩ : ∃ m : Nat, i = m := ⟨i.toNat, by omega⟩
  rw [Int.toNat_natCast] at hK
  rw [e2] at hRI
  have hcall := K.c_inserted a1 A2 c1 c2 l ns m E0.w hr1 hc1 ⟨0, _, hRI⟩ (by omega) h2 h3
  rw [← e2] at hcall
  refine hcall.mono ?_
  rintro e w' ⟨v, rfl, hR, hb⟩
  obtain ⟨g1, g2⟩ := hI.world (w' := w') (row := none) ⟨hb.os, hb.tape, hb.output, hb.size, fun k hk _ => hb.block k hk⟩ (fun b h => by cases h)
  have hns : ∀ x ∈ ns, okI .i64 x := okReps_of k2
  have hrr : ∀ x ∈ K.insL l ns m, okI .i64 x := fun x hx => (insL_mem hx).elim (hok.1.2 x) (hns x)
  obtain ⟨ys, q1, q2, q3, q4, q5⟩ := row_of hR hrr E0.F
  obtain ⟨E', m1, m2, m3, m4, m5, _⟩ := g1.lay 1 rfl (fun h => by have := (hD 1).1 h; simp at this) v (fun b => blkOf v = some b) (fun _ => undef) (.row 2 (.int .i64) (K.insL l ns m)) (fun b hb' => by
    have := (q4 b hb').1
    exact ⟨fun h => by have := hF b h; omega, .inl this, fun j o hj hl hφ => by
      have := hI.lt j o hj hl b hφ
      omega⟩) (fun E' hle hw' => ⟨ys, by rw [hw']; exact q1, q2.imp (fun _ _ h => Rep.flat rfl h), q3, fun _ => Iff.rfl⟩)
  exact ⟨_, _, _, E', rfl, hK, by simp, m1, m3.congr (fun j => by
    simp only [numb]
    by_cases e0 : 0 = j
    · subst e0; rfl
    · by_cases e1 : 1 = j
      · subst e1; rfl
      · simp only [lk_ne _ _ e0, lk_ne _ _ e1]), ⟨⟨m4, m5.symm⟩, q5⟩⟩
def c_inserted : Ctr Try.prog := ⟨111, ent Try.func111 rfl rfl, [false, false, true], sp_inserted, good_inserted, []⟩
@[go_sem] theorem c_inserted_f : c_inserted.f = 111 := rfl
@[go_sem] theorem c_inserted_ms : c_inserted.ms = [false, false, true] := rfl
@[go_sem] theorem c_inserted_sp : c_inserted.spec = sp_inserted := rfl
@[go_sem] theorem c_inserted_fz : c_inserted.fz = [] := rfl
attribute [go_sem] sp_inserted
end Go.Proofs.Ytbnmjhcokdhjmaa.V
