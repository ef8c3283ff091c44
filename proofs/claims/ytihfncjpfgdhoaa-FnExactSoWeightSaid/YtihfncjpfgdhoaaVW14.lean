/- Contracts: turned heads, RotateGauss. Conditions: told by each spec. -/
import Derived.Test.YtihfncjpfgdhoaaVW13
set_option linter.unusedVariables false
set_option linter.unusedSimpArgs false
namespace Go.Proofs.Ytihfncjpfgdhoaa.V
open Go
/-! ### turned heads -/
def turnL (p : Int → Bool) (hs : List Int) : List Int := hs.mapIdx fun i h => if p i then w64 (1 - h) else h
def turnI (p : Int → Bool) (hs : List Int) (i : Nat) : List Int := (turnL p hs).take i ++ hs.drop i
theorem turnL_len (p : Int → Bool) (hs : List Int) : (turnL p hs).length = hs.length := by rw [turnL, List.length_mapIdx]
theorem turnI_len {p : Int → Bool} {hs : List Int} {i : Nat} (h : i ≤ hs.length) : (turnI p hs i).length = hs.length := by
  rw [turnI, List.length_append, List.length_take, List.length_drop, turnL_len]; omega
theorem turnI_all (p : Int → Bool) (hs : List Int) : turnI p hs hs.length = turnL p hs := by
  rw [turnI, List.drop_length, List.append_nil, List.take_of_length_le (by rw [turnL_len]; exact Nat.le_refl _)]
theorem turnI_get {p : Int → Bool} {hs : List Int} {i : Nat} (h : i ≤ hs.length) (j : Nat) (hj : j < hs.length) : (turnI p hs i).getD j 0 = if j < i then (if p j then w64 (1 - hs.getD j 0) else hs.getD j 0) else hs.getD j 0 := by
  have hl := turnL_len p hs
  rw [getD_eq (by rw [turnI_len h]; exact hj), getD_eq hj]
  simp only [turnI]
  by_cases hji : j < i
  · rw [if_pos hji, List.getElem_append_left (by rw [List.length_take]; omega), List.getElem_take]
    simp only [turnL, List.getElem_mapIdx]
  · rw [if_neg hji, List.getElem_append_right (by rw [List.length_take]; omega), List.getElem_drop]
    congr 1
    rw [List.length_take]; omega
theorem turnI_s {p : Int → Bool} {hs : List Int} {i : Nat} (h : i < hs.length) : turnI p hs (i + 1) = if p i then (turnI p hs i).set i (w64 (1 - (turnI p hs i).getD i 0)) else turnI p hs i := by
  have gi : (turnI p hs i).getD i 0 = hs.getD i 0 := by rw [turnI_get (by omega) i h, if_neg (by omega)]
  have ext : ∀ {a b : List Int}, a.length = b.length → (∀ j, j < a.length → a.getD j 0 = b.getD j 0) → a = b := fun {a b} hl hg => by
    refine List.ext_getElem hl (fun j h1 h2 => ?_)
    have := hg j h1
    rwa [getD_eq h1, getD_eq h2] at this
  have l1 := turnI_len (p := p) (hs := hs) (i := i + 1) (by omega)
  have l0 := turnI_len (p := p) (hs := hs) (i := i) (by omega)
  split
  · rename_i hp
    refine ext (by rw [List.length_set, l1, l0]) (fun j hj => ?_)
    rw [l1] at hj
    have g : j < ((turnI p hs i).set i (w64 (1 - (turnI p hs i).getD i 0))).length := by rw [List.length_set, l0]; exact hj
    have g0 : j < (turnI p hs i).length := by rw [l0]; exact hj
    rw [turnI_get (by omega) j hj]
    by_cases e : j = i
    · subst e
      rw [if_pos (by omega), if_pos hp, getD_eq g, List.getElem_set_self, gi]
    · rw [getD_eq g, List.getElem_set_ne (by omega), ← getD_eq g0, turnI_get (by omega) j hj]
      by_cases e2 : j < i
      · rw [if_pos (by omega), if_pos e2]
      · rw [if_neg (by omega), if_neg e2]
  · rename_i hp
    refine ext (by rw [l1, l0]) (fun j hj => ?_)
    rw [l1] at hj
    rw [turnI_get (by omega) j hj, turnI_get (by omega) j hj]
    by_cases e : j = i
    · subst e
      rw [if_pos (by omega), if_neg hp, if_neg (by omega)]
    · by_cases e2 : j < i
      · rw [if_pos (by omega), if_pos e2]
      · rw [if_neg (by omega), if_neg e2]
theorem turnL_congr {p q : Int → Bool} {hs : List Int} (h : ∀ i : Nat, i < hs.length → p i = q i) : turnL p hs = turnL q hs := by
  refine List.ext_getElem (by rw [turnL_len, turnL_len]) (fun j h1 h2 => ?_)
  rw [turnL_len] at h1
  simp only [turnL, List.getElem_mapIdx, h j h1]
def sp_turned : List Cv → List Obj' → Tree
  | [.one (.ro (.int .i64) hs), .one (.pf [.int .i64] .bool f)], [] => .need (hs.length < 1099511627776 ∧ ∀ i : Nat, i < hs.length → (f ((i : Int), ())).isSome = true) (.ret (ow 0) [rwi (turnL (tst f) hs)])
  | _, _ => .fail
set_option maxHeartbeats 4000000 in
set_option maxRecDepth 100000 in
theorem good_turned : Good Try.prog 69 sp_turned := by
  refine good_ofF Try.func69 rfl _ rfl _ rfl (tab [c_clone]) (fun X cs os0 K hok hos hK => ?_)
  clear hos; unfold sp_turned at hK
  split at hK
  case h_2 => exact hK.elim
  rename_i hs f
  refine ⟨by simp, by simp, ?_⟩
  simp only [go_sem] at hK hok
  simp (maxSteps := 4000000) only [go_sem, Try.f69, ↓brB_t, ↓brB_f, Nat.reduceAdd, Int.reduceLE, Int.reduceLT, Int.reduceNeg, decide_true, decide_false, Bool.and_self, Nat.succ_eq_add_one, Int.toNat_natCast, Nat.beq_refl, Bool.and_true, Bool.true_and, Bool.false_or, Bool.or_true, List.all_cons, List.all_nil, Nat.reduceMul, Nat.add_zero, Nat.zero_add, List.length_nil, List.length_cons, dite_true, List.nil_append, Nat.reduceBEq, reduceDIte, reduceIte, reduceCtorEq, Bool.or_false, Bool.true_or, Bool.and_false, Bool.false_and, Bool.not_true, Bool.not_false, Option.isSome_some, Option.isSome_none, Option.getD_some, List.getElem?_cons_zero, List.getElem?_cons_succ, eq_self, and_self, List.take_succ_cons, List.take_zero, List.drop_succ_cons, List.drop_zero]
  obtain ⟨⟨hl, hf⟩, hK⟩ := hK
  clear hok
  refine ⟨hl, ?_⟩
  refine loop_okF (T := tab [c_clone]) [1, 5, 10, 11] [(16, 144)] (fun i : Nat => ⟨27, [(1, .val (.one (.pf [.int .i64] .bool f))), (5, ow 16), (10, vi (hs.length : Nat)), (11, vi i)], [(16, rwi (turnI (tst f) hs i))]⟩)
    (fun i => i ≤ hs.length) (fun i => hs.length - i) 0 rfl rfl (Nat.zero_le _) (fun i hi => ?_)
  have hll := turnI_len (p := tst f) hi
  simp only [go_sem, ↓brB_t, ↓brB_f, Nat.reduceAdd, Int.reduceLE, Int.reduceLT, Int.reduceNeg, decide_true, decide_false, Bool.and_self, Nat.succ_eq_add_one, Int.toNat_natCast, Nat.beq_refl, Bool.and_true, Bool.true_and, Bool.false_or, Bool.or_true, List.all_cons, List.all_nil, Nat.reduceMul, Nat.add_zero, Nat.zero_add, List.length_nil, List.length_cons, dite_true, List.nil_append, Nat.reduceBEq, reduceDIte, reduceIte, reduceCtorEq, Bool.or_false, Bool.true_or, Bool.and_false, Bool.false_and, Bool.not_true, Bool.not_false, Option.isSome_some, Option.isSome_none, Option.getD_some, List.getElem?_cons_zero, List.getElem?_cons_succ, eq_self, and_self, List.take_succ_cons, List.take_zero, List.drop_succ_cons, List.drop_zero]
  refine brB_intro (fun h1 => ?_) (fun h1 => retN [16] rfl ?_)
  · have h1 := of_decide_eq_true h1
    have hs2 := turnI_s (p := tst f) (hs := hs) (i := i) (by omega)
    have hw : w64 ((i : Int) + 1) = ((i + 1 : Nat) : Int) := w64_s (n := hs.length) (by omega) (by omega)
    refine ⟨hf i (by omega), brB_intro (fun h2 => ⟨⟨by omega, by omega⟩, ⟨by omega, by omega⟩, i + 1, [(16, 16)], by omega, by omega, rfl, ?_⟩) (fun h2 => ⟨i + 1, [(16, 16)], by omega, by omega, rfl, ?_⟩)⟩
    · rw [if_pos (show tst f i = true from h2)] at hs2
      rw [hw, hs2]; rfl
    · rw [if_neg (show ¬ tst f i = true by rw [show tst f i = false from h2]; decide)] at hs2
      rw [hw, hs2]; rfl
  · have h1 := of_decide_eq_false h1
    have e : i = hs.length := by omega
    rw [e, turnI_all]; exact hK
def c_turned : Ctr Try.prog := ⟨69, ent Try.func69 rfl rfl, [], sp_turned, good_turned⟩
@[go_sem] theorem c_turned_f : c_turned.f = 69 := rfl
@[go_sem] theorem c_turned_ms : c_turned.ms = [] := rfl
@[go_sem] theorem c_turned_sp : c_turned.spec = sp_turned := rfl
attribute [go_sem] sp_turned
/-! ### RotateGauss -/
/-- Is a chord's head turned? -/
def rotB (w : List Int) (k i : Int) : Bool := decide (pl1 w i < k) && decide (k ≤ pl2 w i)
def rotB' (w : List Int) (k i : Int) : Bool := !decide (decide (pl1 w i < k) = decide (pl2 w i < k))
abbrev kGauss : Kn := .pr (.sl 2 (.int .i64)) (.pr (.sl 2 (.int .i64)) (.sl 2 (.int .i64)))
def sp_rot1 : List Cv → List Obj' → Tree
  | [.one (.v (.int .i64 i)), .one (.elr (.pr (.sl 2 (.int .i64)) (.pr (.sl 2 (.int .i64)) (.sl 2 (.int .i64)))) [g] 0 0), .one (.elr (.int .i64) [k] 0 0)], [] => .need (g.1.length < 1099511627776 ∧ (g.1 : List Int).count i = 2) (.ret (vb (rotB' g.1 k i)) [])
  | _, _ => .fail
set_option maxHeartbeats 4000000 in
set_option maxRecDepth 100000 in
theorem good_rot1 : Good Try.prog 70 sp_rot1 := by
  refine good_ofF Try.func70 rfl _ rfl _ rfl (tab [c_places]) (fun X cs os0 K hok hos hK => ?_)
  clear hos; unfold sp_rot1 at hK
  split at hK
  case h_2 => exact hK.elim
  rename_i i g k
  refine ⟨by simp, by simp, ?_⟩
  simp only [go_sem] at hK hok
  simp (maxSteps := 4000000) only [go_sem, Try.f70, ↓brB_t, ↓brB_f, Nat.reduceAdd, Int.reduceLE, Int.reduceLT, Int.reduceNeg, decide_true, decide_false, Bool.and_self, Nat.succ_eq_add_one, Int.toNat_natCast, Nat.beq_refl, Bool.and_true, Bool.true_and, Bool.false_or, Bool.or_true, List.all_cons, List.all_nil, Nat.reduceMul, Nat.add_zero, Nat.zero_add, List.length_nil, List.length_cons, dite_true, List.nil_append, Nat.reduceBEq, reduceDIte, reduceIte, reduceCtorEq, Bool.or_false, Bool.true_or, Bool.and_false, Bool.false_and, Bool.not_true, Bool.not_false, Option.isSome_some, Option.isSome_none, Option.getD_some, List.getElem?_cons_zero, List.getElem?_cons_succ, eq_self, and_self, List.take_succ_cons, List.take_zero, List.drop_succ_cons, List.drop_zero]
  exact ⟨hK.1, ret0 hK.2⟩
/-- The closure that says whose heads are turned. -/
def rotF (ys : HC [.d kGauss, .d (.int .i64)]) (xs : HT [Kn.int .i64]) : Option Bool := if ys.1.1.length < 1099511627776 ∧ (ys.1.1 : List Int).count xs.1 = 2 then some (rotB' ys.1.1 ys.2.1 xs.1) else none
def p_rot : PFn Try.prog := ⟨70, ent Try.func70 rfl rfl, [.d kGauss, .d (.int .i64)], [.int .i64], .bool, rotF, sp_rot1, good_rot1, fun ys xs y h K hK => by
  unfold rotF at h
  split at h
  · rename_i hc
    injection h with h; subst h
    exact ⟨hc, hK⟩
  · cases h⟩
@[go_sem] theorem p_rot_f : p_rot.f = 70 := rfl
@[go_sem] theorem p_rot_caps (args : List Rv) : (capsM p_rot.cks args fun ys => .ret (.val (.one (.pf p_rot.ks p_rot.r (p_rot.g ys))))) = capsM [.d kGauss, .d (.int .i64)] args fun ys => .ret (.val (.one (.pf [.int .i64] .bool (rotF ys)))) := rfl
/-- What RotateGauss gives. -/
def rotR (w hs ss : List Int) (k : Int) : (List Int × List Int × List Int) × Int :=
  if isG w hs ss then (if inB k 0 w.length then
    ((Go.Proofs.Ytihfncjpfgdhoaa.K.normalL (w.drop k.toNat ++ w.take k.toNat), Go.Proofs.Ytihfncjpfgdhoaa.K.firsts (w.drop k.toNat ++ w.take k.toNat) (turnL (rotB w k) hs), Go.Proofs.Ytihfncjpfgdhoaa.K.firsts (w.drop k.toNat ++ w.take k.toNat) ss), 0) else (([], [], []), 2)) else (([], [], []), 1)
theorem rot1 {w hs ss : List Int} {k : Int} (g : isG w hs ss = false) : rotR w hs ss k = (([], [], []), 1) := by rw [rotR, g]; rfl
theorem rot2 {w hs ss : List Int} {k : Int} (g : isG w hs ss = true) (c : inB k 0 w.length = false) : rotR w hs ss k = (([], [], []), 2) := by rw [rotR, g, c]; rfl
theorem rot0 {w hs ss : List Int} {k : Int} (g : isG w hs ss = true) (c : inB k 0 w.length = true) : rotR w hs ss k = ((Go.Proofs.Ytihfncjpfgdhoaa.K.normalL (w.drop k.toNat ++ w.take k.toNat), Go.Proofs.Ytihfncjpfgdhoaa.K.firsts (w.drop k.toNat ++ w.take k.toNat) (turnL (rotB w k) hs), Go.Proofs.Ytihfncjpfgdhoaa.K.firsts (w.drop k.toNat ++ w.take k.toNat) ss), 0) := by rw [rotR, g, c]; rfl
theorem rot_need {w hs ss : List Int} {k : Int} (p : Int → Bool) (g : isG w hs ss = true) : (w.drop k.toNat ++ w.take k.toNat).length < 1099511627776 ∧ ∀ x ∈ w.drop k.toNat ++ w.take k.toNat, 0 ≤ x ∧ x < ((turnL p hs).length : Nat) ∧ x < (ss.length : Nat) := by
  obtain ⟨g1, g2, g3⟩ := Go.Proofs.Ytihfncjpfgdhoaa.L.gauss_parts g
  obtain ⟨w1, w2⟩ := Go.Proofs.Ytihfncjpfgdhoaa.L.word_range g1
  refine ⟨by rw [List.length_append, List.length_drop, List.length_take]; omega, fun x hx => ?_⟩
  rw [turnL_len]
  have : x ∈ w := (List.mem_append.1 hx).elim List.mem_of_mem_drop List.mem_of_mem_take
  have := w2 x this
  omega
theorem word_count {w : List Int} (h : isW w = true) {i : Nat} (hi : i < w.length / 2) : w.count (i : Int) = 2 := by
  obtain ⟨n, hw⟩ := Go.Proofs.Ytihfncjpfgdhoaa.L.word_of w h
  exact hw.two i (by have := hw.len; omega)
theorem rotB_eq {w : List Int} (h : isW w = true) {i : Nat} (hi : i < w.length / 2) (k : Int) : rotB' w k i = rotB w k i := by
  obtain ⟨a, b, ab, bl, p1, p2, _⟩ := pl_two (word_count h hi)
  rw [rotB, rotB', p1, p2]
  by_cases h1 : (a : Int) < k <;> by_cases h2 : (b : Int) < k
  · rw [decide_eq_true h1, decide_eq_true h2, decide_eq_false (by omega : ¬ k ≤ (b : Int))]; rfl
  · rw [decide_eq_true h1, decide_eq_false h2, decide_eq_true (by omega : k ≤ (b : Int))]; rfl
  · omega
  · rw [decide_eq_false h1, decide_eq_false h2]; rfl
theorem rotR_len (w hs ss : List Int) (k : Int) : (rotR w hs ss k).1.1.length ≤ 1048576 ∧ (rotR w hs ss k).1.2.1.length ≤ 1048576 ∧ (rotR w hs ss k).1.2.2.length ≤ 1048576 := by
  unfold rotR
  split
  · rename_i g
    obtain ⟨g1, g2, g3⟩ := Go.Proofs.Ytihfncjpfgdhoaa.L.gauss_parts g
    obtain ⟨w1, w2⟩ := Go.Proofs.Ytihfncjpfgdhoaa.L.word_range g1
    split
    · have e : (w.drop k.toNat ++ w.take k.toNat).length ≤ 24 := by rw [List.length_append, List.length_drop, List.length_take]; omega
      refine ⟨?_, Nat.le_trans (firsts_len _ _) (by omega), Nat.le_trans (firsts_len _ _) (by omega)⟩
      show (Go.Proofs.Ytihfncjpfgdhoaa.K.normFrom _ _).length ≤ _
      rw [Go.Proofs.Ytihfncjpfgdhoaa.K.normFrom_length]; omega
    · exact ⟨by decide, by decide, by decide⟩
  · exact ⟨by decide, by decide, by decide⟩
def sp_rotate : List Cv → List Obj' → Tree
  | [.agg [.ro (.int .i64) w, .ro (.int .i64) hs, .ro (.int .i64) ss], .one (.v (.int .i64 k))], [] => resG (rotR w hs ss k)
  | _, _ => .fail
theorem rotF_some {w hs ss : List Int} {k : Int} (g : isG w hs ss = true) : (∀ i : Nat, i < hs.length → (rotF ((w, hs, ss), k, ()) ((i : Int), ())).isSome = true) ∧ turnL (tst (rotF ((w, hs, ss), k, ()))) hs = turnL (rotB w k) hs := by
  have g1 := (Go.Proofs.Ytihfncjpfgdhoaa.L.gauss_parts g).1
  have g2 := (Go.Proofs.Ytihfncjpfgdhoaa.L.gauss_parts g).2.1
  have w1 := (Go.Proofs.Ytihfncjpfgdhoaa.L.word_range g1).1
  have key : ∀ i : Nat, i < hs.length → rotF ((w, hs, ss), k, ()) ((i : Int), ()) = some (rotB w k i) := fun i hi => by
    have hc := word_count g1 (i := i) (by omega)
    have e := rotB_eq g1 (i := i) (by omega) k
    show (if w.length < 1099511627776 ∧ w.count (i : Int) = 2 then some (rotB' w k i) else none) = _
    rw [if_pos ⟨by omega, hc⟩, e]
  refine ⟨fun i hi => by rw [key i hi]; rfl, turnL_congr fun i hi => ?_⟩
  show (rotF ((w, hs, ss), k, ()) ((i : Int), ())).getD false = _
  rw [key i hi]; rfl
theorem flat2 (a b : List Int) : [a, b].flatten = a ++ b := by simp
theorem sum2 (a b : List Int) : sumLen [a, b] = a.length + b.length := by simp [sumLen]
theorem placesB1 (n : Nat) (p : Int) : placesB n [p] = inB p 0 n := by simp [placesB, placeB]
set_option maxHeartbeats 4000000 in
set_option maxRecDepth 100000 in
theorem good_rotateI : Good Try.prog 33 sp_rotate := by
  refine good_ofF Try.func33 rfl _ rfl _ rfl (tab [c_IsGauss, c_placesOk, c_turned, c_concat, c_renumbered] [] [p_rot]) (fun X cs os0 K hok hos hK => ?_)
  clear hos; unfold sp_rotate at hK
  split at hK
  case h_2 => exact hK.elim
  rename_i w hs ss k
  refine ⟨by simp, by simp, ?_⟩
  simp only [go_sem] at hK hok
  simp (maxSteps := 4000000) only [go_sem, Try.f33, ↓brB_t, ↓brB_f, Nat.reduceAdd, Int.reduceLE, Int.reduceLT, Int.reduceNeg, decide_true, decide_false, Bool.and_self, Nat.succ_eq_add_one, Int.toNat_natCast, Nat.beq_refl, Bool.and_true, Bool.true_and, Bool.false_or, Bool.or_true, List.all_cons, List.all_nil, Nat.reduceMul, Nat.add_zero, Nat.zero_add, List.length_nil, List.length_cons, dite_true, List.nil_append, Nat.reduceBEq, reduceDIte, reduceIte, reduceCtorEq, Bool.or_false, Bool.true_or, Bool.and_false, Bool.false_and, Bool.not_true, Bool.not_false, Option.isSome_some, Option.isSome_none, Option.getD_some, List.getElem?_cons_zero, List.getElem?_cons_succ, eq_self, and_self, List.take_succ_cons, List.take_zero, List.drop_succ_cons, List.drop_zero]
  have err : ∀ {c : Int}, rotR w hs ss k = (([], [], []), c) → K (.tup [.agg [.own 0, .own 1, .own 2], .one (.v (.int .i64 c))]) [rwi [], rwi [], rwi []] := fun e => by rw [e] at hK; exact hK
  clear hok
  refine brB_intro (fun h1 => retM [⟨.cell 80 0, 16, 2, .int .i64⟩, ⟨.cell 80 1, 17, 2, .int .i64⟩, ⟨.cell 80 2, 18, 2, .int .i64⟩] rfl (retN [16, 17, 18] rfl (err (rot1 (nb h1))))) (fun h1 => ?_)
  have h1 := nb' h1
  rw [placesB1]
  refine brB_intro (fun h2 => retM [⟨.cell 80 0, 16, 2, .int .i64⟩, ⟨.cell 80 1, 17, 2, .int .i64⟩, ⟨.cell 80 2, 18, 2, .int .i64⟩] rfl (retN [16, 17, 18] rfl (err (rot2 h1 (nb h2))))) (fun h2 => ?_)
  have h2 := nb' h2
  have hp := inB_t h2
  have g1 := (Go.Proofs.Ytihfncjpfgdhoaa.L.gauss_parts h1).1
  have g2 := (Go.Proofs.Ytihfncjpfgdhoaa.L.gauss_parts h1).2.1
  have w1 := (Go.Proofs.Ytihfncjpfgdhoaa.L.word_range g1).1
  have hf := (rotF_some (k := k) h1).1
  rw [(rotF_some (k := k) h1).2, flat2, sum2]
  rw [rot0 h1 h2] at hK
  have l1 : (w.drop k.toNat).length ≤ 12 := by rw [List.length_drop]; omega
  have l2 : (w.take k.toNat).length ≤ 12 := by rw [List.length_take]; omega
  exact ⟨⟨by omega, hf⟩, hp, hp, by omega, rot_need _ h1, by kernel_rfl, retN [608, 609, 610] rfl hK⟩
def c_rotateI : Ctr Try.prog := ⟨33, ent Try.func33 rfl rfl, [], sp_rotate, good_rotateI⟩
@[go_sem] theorem c_rotateI_f : c_rotateI.f = 33 := rfl
@[go_sem] theorem c_rotateI_ms : c_rotateI.ms = [] := rfl
@[go_sem] theorem c_rotateI_sp : c_rotateI.spec = sp_rotate := rfl
attribute [go_sem] sp_rotate
set_option maxHeartbeats 4000000 in
set_option maxRecDepth 100000 in
theorem good_rotateS : Good Try.prog 32 sp_rotate := by
  refine good_ofF Try.func32 rfl _ rfl _ rfl (tab [c_l07Is, c_l01In, c_own, c_l01Places, c_l07Normal]) (fun X cs os0 K hok hos hK => ?_)
  clear hos; unfold sp_rotate at hK
  split at hK
  case h_2 => exact hK.elim
  rename_i w hs ss k
  refine ⟨by simp, by simp, ?_⟩
  simp only [go_sem] at hK hok
  simp (maxSteps := 4000000) only [go_sem, Try.f32, ↓brB_t, ↓brB_f, Nat.reduceAdd, Int.reduceLE, Int.reduceLT, Int.reduceNeg, decide_true, decide_false, Bool.and_self, Nat.succ_eq_add_one, Int.toNat_natCast, Nat.beq_refl, Bool.and_true, Bool.true_and, Bool.false_or, Bool.or_true, List.all_cons, List.all_nil, Nat.reduceMul, Nat.add_zero, Nat.zero_add, List.length_nil, List.length_cons, dite_true, List.nil_append, Nat.reduceBEq, reduceDIte, reduceIte, reduceCtorEq, Bool.or_false, Bool.true_or, Bool.and_false, Bool.false_and, Bool.not_true, Bool.not_false, Option.isSome_some, Option.isSome_none, Option.getD_some, List.getElem?_cons_zero, List.getElem?_cons_succ, eq_self, and_self, List.take_succ_cons, List.take_zero, List.drop_succ_cons, List.drop_zero]
  have err : ∀ {c : Int}, rotR w hs ss k = (([], [], []), c) → K (.tup [.agg [.own 0, .own 1, .own 2], .one (.v (.int .i64 c))]) [rwi [], rwi [], rwi []] := fun e => by rw [e] at hK; exact hK
  clear hok
  refine brB_intro (fun h1 => retM [⟨.cell 80 0, 16, 2, .int .i64⟩, ⟨.cell 80 1, 17, 2, .int .i64⟩, ⟨.cell 80 2, 18, 2, .int .i64⟩] rfl (retN [16, 17, 18] rfl (err (rot1 (nb h1))))) (fun h1 => ?_)
  have h1 := nb' h1
  refine brB_intro (fun h2 => retM [⟨.cell 80 0, 16, 2, .int .i64⟩, ⟨.cell 80 1, 17, 2, .int .i64⟩, ⟨.cell 80 2, 18, 2, .int .i64⟩] rfl (retN [16, 17, 18] rfl (err (rot2 h1 (nb h2))))) (fun h2 => ?_)
  have h2 := nb' h2
  have hp := inB_t h2
  have g1 := (Go.Proofs.Ytihfncjpfgdhoaa.L.gauss_parts h1).1
  have g2 := (Go.Proofs.Ytihfncjpfgdhoaa.L.gauss_parts h1).2.1
  have w1 := (Go.Proofs.Ytihfncjpfgdhoaa.L.word_range g1).1
  refine ⟨by omega, ?_⟩
  refine loop_okF (T := tab [c_l07Is, c_l01In, c_own, c_l01Places, c_l07Normal]) [1, 2, 4, 6, 7] [(16, 48), (17, 80), (18, 416)] (fun i : Nat => ⟨69, [(1, vi k), (2, .val (.one (.ptr 16 0))), (4, .val (.one (.ptr 17 0))), (6, ow 18), (7, vi i)],
      [(16, .box 34 [.ro (.int .i64) w, .ro (.int .i64) hs, .ro (.int .i64) ss]), (17, .box 34 [.v (.slice none 0 0), .v (.slice none 0 0), .v (.slice none 0 0)]), (18, rwi (turnI (rotB w k) hs i))]⟩)
    (fun i => i ≤ hs.length) (fun i => hs.length - i) 0 rfl rfl (Nat.zero_le _) (fun i hi => ?_)
  have hll := turnI_len (p := rotB w k) hi
  simp only [go_sem, ↓brB_t, ↓brB_f, Nat.reduceAdd, Int.reduceLE, Int.reduceLT, Int.reduceNeg, decide_true, decide_false, Bool.and_self, Nat.succ_eq_add_one, Int.toNat_natCast, Nat.beq_refl, Bool.and_true, Bool.true_and, Bool.false_or, Bool.or_true, List.all_cons, List.all_nil, Nat.reduceMul, Nat.add_zero, Nat.zero_add, List.length_nil, List.length_cons, dite_true, List.nil_append, Nat.reduceBEq, reduceDIte, reduceIte, reduceCtorEq, Bool.or_false, Bool.true_or, Bool.and_false, Bool.false_and, Bool.not_true, Bool.not_false, Option.isSome_some, Option.isSome_none, Option.getD_some, List.getElem?_cons_zero, List.getElem?_cons_succ, eq_self, and_self, List.take_succ_cons, List.take_zero, List.drop_succ_cons, List.drop_zero]
  refine brB_intro (fun h3 => ?_) (fun h3 => ?_)
  · have h3 := of_decide_eq_true h3
    have hc := word_count g1 (i := i) (by omega)
    have hs2 := turnI_s (p := rotB w k) (hs := hs) (i := i) (by omega)
    have hw : w64 ((i : Int) + 1) = ((i + 1 : Nat) : Int) := w64_s (n := hs.length) (by omega) (by omega)
    refine ⟨⟨by omega, hc⟩, brB_intro (fun h4 => brB_intro (fun h5 => ?_) (fun h5 => ?_)) (fun h4 => ?_)⟩
    · refine ⟨⟨by omega, by omega⟩, ⟨by omega, by omega⟩, i + 1, [(16, 16), (17, 17), (18, 18)], by omega, by omega, rfl, ?_⟩
      rw [if_pos (show rotB w k i = true by rw [rotB, h4, h5]; rfl)] at hs2
      rw [hw, hs2]; rfl
    · refine ⟨i + 1, [(16, 16), (17, 17), (18, 18)], by omega, by omega, rfl, ?_⟩
      rw [if_neg (show ¬ rotB w k i = true by rw [rotB, h4, h5]; decide)] at hs2
      rw [hw, hs2]; rfl
    · refine ⟨i + 1, [(16, 16), (17, 17), (18, 18)], by omega, by omega, rfl, ?_⟩
      rw [if_neg (show ¬ rotB w k i = true by rw [rotB, h4]; simp)] at hs2
      rw [hw, hs2]; rfl
  · have h3 := of_decide_eq_false h3
    have e : i = hs.length := by omega
    rw [e, turnI_all]
    rw [rot0 h1 h2] at hK
    have l1 : (w.drop k.toNat).length ≤ 12 := by rw [List.length_drop]; omega
    have l2 : (w.take k.toNat).length ≤ 12 := by rw [List.length_take]; omega
    exact ⟨hp, by omega, hp, by omega, rot_need _ h1, by kernel_rfl, retN [1104, 1105, 1106] rfl hK⟩
def c_rotateS : Ctr Try.prog := ⟨32, ent Try.func32 rfl rfl, [], sp_rotate, good_rotateS⟩
@[go_sem] theorem c_rotateS_f : c_rotateS.f = 32 := rfl
@[go_sem] theorem c_rotateS_ms : c_rotateS.ms = [] := rfl
@[go_sem] theorem c_rotateS_sp : c_rotateS.spec = sp_rotate := rfl
attribute [go_sem] sp_rotate
end Go.Proofs.Ytihfncjpfgdhoaa.V
