/- Contracts: slices.Grow at the nil slice. Conditions: told by its spec. -/
import Derived.Test.YtihfncjpfgdhoaaVB
set_option linter.unusedVariables false
set_option linter.unusedSimpArgs false
namespace Go.Proofs.Ytihfncjpfgdhoaa.V
open Go
open Go.RowKit Go.Lib Go.Proofs.YtihfncjpfgdhoaaW.PrintWords Go.Proofs.YtihfncjpfgdhoaaW.PrintLast Go.Proofs.YtihfncjpfgdhoaaW.PrintMore
set_option maxHeartbeats 1000000 in
set_option maxRecDepth 100000 in
theorem grow_nil (n : Nat) (w : World) (h0 : 0 < n) (hn : n ≤ 1099511627776) :
    Calls Try.prog 104 #[.slice none 0 0, .int .i64 n] w fun e w' => ∃ (cap : Nat) (cur : Array Value), e = .returned (.slice (some ⟨w.heap.size, 0, none⟩) 0 cap) ∧ w' = w.drew.alloc (.cells cur 2) ∧ cap ≤ maxLen ∧ cur.size = cap := by
  obtain ⟨i0, hi0, hz0, hs0, hb0⟩ := info_parts Go.Proofs.Ytihfncjpfgdhoaa.K.info2
  have h1 : ¬ ((n : Int) < 0) := by omega
  have h2 : wrap64 ((n : Int) - 0) = (n : Int) := by unfold wrap64; omega
  have h4 : (n : Int) > 0 := by omega
  have hold : (Builtin.firstCells i0.size 0 (.slice none 0 0)).run Try.prog w.drew = .ok #[] w.drew := run_firstCells_none w.drew i0.size 0 0 0
  have hrz : ∀ ty, (Builtin.append_ #[22, 3] ty #[.slice none 0 0, .int .i64 (n : Int)]).run Try.prog w =
      .ok (.slice (some ⟨w.heap.size, 0, none⟩) n (grownCap w n 0 2)) (w.drew.alloc (.cells (#[] ++ Builtin.zeroCells (Value.int .i64 0).cells n ++ Builtin.zeroCells (Value.int .i64 0).cells (grownCap w n 0 2 - n)) 2)) := fun ty => by
    have h := Lib.run_append_grow_zeros w 22 3 ty 2 i0 _ .i64 .i64 Try.underlying22 Try.underlying3 hi0 hz0 none 0 0 [] hold n h0 (by omega) (by omega) (by omega) (by rw [hb0]; omega) (by rw [hb0]; exact growslice_fits (by omega) (by omega))
    simpa only [Nat.zero_add] using h
  have hGn : n ≤ grownCap w n 0 2 := grownCap_ge w _ _ _
  have hGm := grownCap_le_maxLen w n 0 2 (by unfold maxLen; omega)
  obtain ⟨G, hG⟩ : ∃ G, G = grownCap w n 0 2 := ⟨_, rfl⟩
  rw [← hG] at hrz hGn hGm
  have hG63 : G ≤ 9223372036854775807 := by unfold maxLen at hGm; omega
  have hsz : (#[] ++ Builtin.zeroCells (Value.int .i64 0).cells n ++ Builtin.zeroCells (Value.int .i64 0).cells (G - n)).size = G := by
    simp only [Array.size_append, size_zeroCells, Value.cells]
    simp
    omega
  have HS := Aside0.mk hsz
  have HM := Aside0.mk hGm
  clear hold hG hsz hGm
  go_enter Try.func104, Try.ntmps104
  go_wp2_with (at_builtin; refine Lib.wpList_append_run _ rfl _ _ _ _ rfl _ _ rfl rfl _ _ (hrz _) ?_)
  all_goals go_ret
  exact ⟨_, rfl, _, rfl, HM.out, by have := HS.out; rwa [Array.empty_append] at this⟩
theorem grow_zero (w : World) : Calls Try.prog 104 #[.slice none 0 0, .int .i64 0] w fun e w' => e = .returned (.slice none 0 0) ∧ w' = w := by
  go_enter Try.func104, Try.ntmps104
  go_wp2
  go_ret
  exact ⟨rfl, rfl⟩
def sp_grow : List Cv → List Obj' → Tree
  | [.one (.v (.slice none 0 0)), .one (.v (.int .i64 n))], [] => .need (0 ≤ n ∧ n ≤ 1099511627776) (.ret (ow 0) [rwi []])
  | _, _ => .fail
theorem good_grow : Good Try.prog 104 sp_grow := by
  refine good0 (fun cs o os => by unfold sp_grow; split <;> first | rfl | (rename_i h; cases h)) (fun w F cs vs Kc hF ha hok hK => ?_)
  unfold sp_grow at hK
  split at hK
  case h_2 => exact hK.elim
  rename_i n _
  obtain ⟨u1, u2, rfl, hu1, hu2⟩ : ∃ u1 u2, vs = [u1, u2] ∧ CV Try.prog (E00 w F) (.one (.v (.slice none 0 0))) u1 ∧ CV Try.prog (E00 w F) (.one (.v (.int .i64 n))) u2 := by
    rcases vs with _ | ⟨u1, _ | ⟨u2, _ | ⟨u3, _⟩⟩⟩
    · exact ha.elim
    · exact ha.2.elim
    · exact ⟨u1, u2, rfl, ha.1, ha.2.1⟩
    · exact ha.2.2.elim
  obtain ⟨⟨rfl, _⟩, _⟩ := hu1
  obtain ⟨⟨rfl, _⟩, _⟩ := hu2
  obtain ⟨⟨h0, h1⟩, hK⟩ := hK
  have fin : ∀ (v : Value) (w' : World), w.grownBy w' none → w'.ownsRow 0 2 1 v 0 [] → (∀ b, blkOf v = some b → w.heap.size ≤ b) → v.oneCell' = true → ∃ r u os E, Ending.returned v = .returned u ∧ Kc r os ∧ E.w = w' ∧ Inv Try.prog (X00 w F) (numb 0 os) E ∧ RV Try.prog E r u := by
    intro v w' hg ho hb h1
    have hI := ((Inv.start (P := Try.prog) w F hF).world (w' := w') (row := none) hg (fun b h => by cases h)).1
    obtain ⟨E', k1, k2, k3, k4, k5, _⟩ := hI.lay 0 rfl (fun h => h) v (fun b => blkOf v = some b) (fun _ => undef) (.row 2 (.int .i64) []) (fun b hb' => ⟨fun h => by have := hF b h; have := hb b hb'; omega, .inl (hb b hb'), fun j o hj => by cases hj⟩) (fun E' hle hw => ⟨[], by rw [hw]; exact ho, rfl, Nat.zero_le _, fun _ => Iff.rfl⟩)
    exact ⟨_, _, _, E', rfl, hK, k1, k3, ⟨⟨k4, k5.symm⟩, h1⟩⟩
  obtain ⟨m, rfl⟩ : ∃ m : Nat, n = m := ⟨n.toNat, by omega⟩
  rcases Nat.eq_zero_or_pos m with hm | hm
  · subst hm
    refine (grow_zero w).mono ?_
    rintro e w' ⟨rfl, rfl⟩
    exact fin _ _ ⟨rfl, rfl, rfl, Nat.le_refl _, fun _ _ _ => rfl⟩ (World.ownsRow_nil _ _ _ _) (fun b h => by cases h) rfl
  · refine (grow_nil m w hm (by omega)).mono ?_
    rintro e w' ⟨cap, cur, rfl, rfl, hc, hs⟩
    refine fin _ _ ⟨rfl, rfl, rfl, by simp, fun k hk _ => heap_alloc_old w.drew _ hk⟩ ⟨rfl, .inr ⟨w.heap.size, cap, cur, rfl, Nat.zero_le _, heap_alloc_new w.drew _, Nat.zero_le _, hc, by rw [hs, Nat.mul_one], rfl⟩⟩ (fun b h => ?_) rfl
    have : w.heap.size = b := by simpa [blkOf] using h
    omega
def c_grow : Ctr Try.prog := ⟨104, ent Try.func104 rfl rfl, [], sp_grow, good_grow⟩
@[go_sem] theorem c_grow_f : c_grow.f = 104 := rfl
@[go_sem] theorem c_grow_ms : c_grow.ms = [] := rfl
@[go_sem] theorem c_grow_sp : c_grow.spec = sp_grow := rfl
attribute [go_sem] sp_grow
end Go.Proofs.Ytihfncjpfgdhoaa.V
