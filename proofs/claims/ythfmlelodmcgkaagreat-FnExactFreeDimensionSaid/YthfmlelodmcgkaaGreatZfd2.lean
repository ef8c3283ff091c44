/- Packed texts of this session's: VM, VJ0, VJC, VCh, VI7, VI8, VE1, VE2, KInsert, VBI, VY0, VY2, VXA, VX1, VRw, VDg, VF4, VF5, VF6, VF7. Conditions: in each. -/
import Derived.Test.YthfmlelodmcgkaaGreatProg
import Derived.Test.YthfmlelodmcgkaaGreatZfd1
set_option linter.unusedVariables false
set_option linter.unusedSimpArgs false
set_option linter.unusedSectionVars false
section
namespace Go.Proofs.YthfmlelodmcgkaaGreat.V
open Go
abbrev MapL := List (ByteArray × (List Int × Int))
abbrev tG : Nat := 134
abbrev tMT : Nat := 132
abbrev oG (p : Int) (m : Nat) : Obj' := .box tG [.v (.int .i64 p), .own m]
abbrev oM (l : MapL) : Obj' := .mp tMT kTerm ([], 0) l
def gAt (l : MapL) (w : List Int) : Int := ((findK l (textB w)).getD ([], 0)).2
def gAdd (p : Int) (l : MapL) (w : List Int) (v : Int) : MapL := putK l (textB w) (w, modI p (w64 (gAt l w + v)))
theorem bytesS_size (l : List Int) : (bytesS l).size = l.length := by
  have h : ∀ (l : List Int) (r : ByteArray), (l.foldl (fun r n => r.push (UInt8.ofNat n.toNat)) r).size = r.size + l.length := fun l => by
    induction l with
    | nil => intro r; rfl
    | cons x l ih =>
      intro r
      rw [List.foldl_cons, ih, ByteArray.size_push, List.length_cons]
      omega
  unfold bytesS
  rw [h]
  simp
theorem textB_size (w : List Int) : (textB w).size = w.length := by rw [textB, bytesS_size, List.length_map]
def sp_newG : List Cv → List Obj' → Tree
  | [.one (.v (.int .i64 p))], [] => .ret (.val (.one (.ptr 0 0))) [oG p 1, oM []]
  | _, _ => .fail
set_option maxHeartbeats 4000000 in
set_option maxRecDepth 100000 in
theorem good_newG : Good Tryz.prog 122 sp_newG := by
  refine good_ofF Tryz.func122 rfl _ rfl _ rfl (tab []) (fun X cs os0 K hok hos hK => ?_)
  clear hos; unfold sp_newG at hK
  split at hK
  case h_2 => exact hK.elim
  rename_i p
  refine ⟨by simp, by simp, ?_⟩
  simp only [go_sem] at hK hok
  simp (maxSteps := 4000000) only [go_sem, Tryz.f122, ↓brB_t, ↓brB_f, Nat.reduceAdd, Int.reduceLE, Int.reduceLT, Int.reduceNeg, decide_true, decide_false, Bool.and_self, Nat.succ_eq_add_one, Int.toNat_natCast, Nat.beq_refl, Bool.and_true, Bool.true_and, Bool.false_or, Bool.or_true, List.all_cons, List.all_nil, Nat.reduceMul, Nat.add_zero, Nat.zero_add, List.length_nil, List.length_cons, dite_true, List.nil_append, Nat.reduceBEq, reduceDIte, reduceIte, reduceCtorEq, Bool.or_false, Bool.true_or, Bool.and_false, Bool.false_and, Bool.not_true, Bool.not_false, Option.isSome_some, Option.isSome_none, Option.getD_some, List.getElem?_cons_zero, List.getElem?_cons_succ, eq_self, and_self, List.take_succ_cons, List.take_zero, List.drop_succ_cons, List.drop_zero]
  exact retN [112, 80] rfl hK
def c_newG : Ctr Tryz.prog := ⟨122, ent Tryz.func122 rfl rfl, [], sp_newG, good_newG, []⟩
@[go_sem] theorem c_newG_f : c_newG.f = 122 := rfl
@[go_sem] theorem c_newG_ms : c_newG.ms = [] := rfl
@[go_sem] theorem c_newG_sp : c_newG.spec = sp_newG := rfl
@[go_sem] theorem c_newG_fz : c_newG.fz = [] := rfl
attribute [go_sem] sp_newG
def sp_gAdd : List Cv → List Obj' → Tree
  | [.one (.ptr 0 0), .one (.ro (.int .i64) w), .one (.v (.int .i64 v))], [.box t [.v (.int .i64 p), .own 1], .mp 132 (.pr (.sl 2 (.int .i64)) (.int .i64)) z l] =>
    .need (p ≠ 0 ∧ w.length < 1099511627776 ∧ (l : MapL).length ≤ 1099511627776 ∧ z = (([], 0) : List Int × Int)) (.ret (.tup []) [.box t [.v (.int .i64 p), .own 1], .mp 132 (.pr (.sl 2 (.int .i64)) (.int .i64)) z (gAdd p l w v)])
  | _, _ => .fail
set_option maxHeartbeats 4000000 in
set_option maxRecDepth 100000 in
theorem good_gAdd : Good Tryz.prog 123 sp_gAdd := by
  refine good_ofF Tryz.func123 rfl _ rfl _ rfl (tab [c_wordText, c_rest]) (fun X cs os0 K hok hos hK => ?_)
  unfold sp_gAdd at hK
  split at hK
  case h_2 => exact hK.elim
  rename_i w v t p z l
  refine ⟨by simp, by simp, ?_⟩
  simp only [go_sem] at hK hok hos
  simp (maxSteps := 4000000) only [go_sem, Tryz.f123, ↓brB_t, ↓brB_f, Nat.reduceAdd, Int.reduceLE, Int.reduceLT, Int.reduceNeg, decide_true, decide_false, Bool.and_self, Nat.succ_eq_add_one, Int.toNat_natCast, Nat.beq_refl, Bool.and_true, Bool.true_and, Bool.false_or, Bool.or_true, List.all_cons, List.all_nil, Nat.reduceMul, Nat.add_zero, Nat.zero_add, List.length_nil, List.length_cons, dite_true, List.nil_append, Nat.reduceBEq, reduceDIte, reduceIte, reduceCtorEq, Bool.or_false, Bool.true_or, Bool.and_false, Bool.false_and, Bool.not_true, Bool.not_false, Option.isSome_some, Option.isSome_none, Option.getD_some, List.getElem?_cons_zero, List.getElem?_cons_succ, eq_self, and_self, List.take_succ_cons, List.take_zero, List.drop_succ_cons, List.drop_zero]
  obtain ⟨⟨hp, hw, hl, rfl⟩, hK⟩ := hK
  clear hok hos
  have hs : (textB w).size ≤ 1099511627776 := by rw [textB_size]; omega
  refine ⟨hw, hs, hp, ⟨hs, hl⟩, by kernel_rfl, retN [0, 1] rfl hK⟩
def c_gAdd : Ctr Tryz.prog := ⟨123, ent Tryz.func123 rfl rfl, [true, false, false], sp_gAdd, good_gAdd, [false, true]⟩
@[go_sem] theorem c_gAdd_f : c_gAdd.f = 123 := rfl
@[go_sem] theorem c_gAdd_ms : c_gAdd.ms = [true, false, false] := rfl
@[go_sem] theorem c_gAdd_sp : c_gAdd.spec = sp_gAdd := rfl
@[go_sem] theorem c_gAdd_fz : c_gAdd.fz = [false, true] := rfl
attribute [go_sem] sp_gAdd
def gAll (p : Int) (l : MapL) (k : Int) (ts : TermL) : MapL := ts.foldl (fun l x => gAdd p l x.1 (w64 (x.2 * k))) l
theorem gAdd_len (p : Int) (l : MapL) (w : List Int) (v : Int) : (gAdd p l w v).length ≤ l.length + 1 := by
  unfold gAdd
  rw [putK_length]
  split <;> omega
theorem gAll_s {p : Int} {l : MapL} {k : Int} {ts : TermL} {i : Nat} (h : i < ts.length) : gAll p l k (ts.take (i + 1)) = gAdd p (gAll p l k (ts.take i)) (ts.getD i ([], 0)).1 (w64 ((ts.getD i ([], 0)).2 * k)) := by
  have e : ts.getD i ([], 0) = ts[i] := by rw [List.getD_eq_getElem?_getD, List.getElem?_eq_getElem h]; rfl
  rw [gAll, List.take_succ_eq_append_getElem h, List.foldl_append, e]; rfl
theorem gAll_len (p : Int) (l : MapL) (k : Int) (ts : TermL) : (gAll p l k ts).length ≤ l.length + ts.length := by
  unfold gAll
  induction ts generalizing l with
  | nil => simp
  | cons x ts ih =>
    rw [List.foldl_cons, List.length_cons]
    have := ih (gAdd p l x.1 (w64 (x.2 * k)))
    have := gAdd_len p l x.1 (w64 (x.2 * k))
    omega
def sp_gAll : List Cv → List Obj' → Tree
  | [.one (.ptr 0 0), .agg [.v (.int .i64 q), .ro (.pr (.sl 2 (.int .i64)) (.int .i64)) ts], .one (.v (.int .i64 k))], [.box t [.v (.int .i64 p), .own 1], .mp 132 (.pr (.sl 2 (.int .i64)) (.int .i64)) z l] =>
    .need (p ≠ 0 ∧ (∀ x ∈ (ts : TermL), x.1.length < 1099511627776) ∧ (l : MapL).length + (ts : TermL).length ≤ 1099511627776 ∧ z = (([], 0) : List Int × Int)) (.ret (.val (.one (.ptr 0 0))) [.box t [.v (.int .i64 p), .own 1], .mp 132 (.pr (.sl 2 (.int .i64)) (.int .i64)) z (gAll p l k ts)])
  | _, _ => .fail
set_option maxHeartbeats 4000000 in
set_option maxRecDepth 100000 in
theorem good_gAll : Good Tryz.prog 162 sp_gAll := by
  refine good_ofF Tryz.func162 rfl _ rfl _ rfl (tab [c_gAdd]) (fun X cs os0 K hok hos hK => ?_)
  unfold sp_gAll at hK
  split at hK
  case h_2 => exact hK.elim
  rename_i q ts k t p z l
  refine ⟨by simp, by simp, ?_⟩
  simp only [go_sem] at hK hok hos
  simp (maxSteps := 4000000) only [go_sem, Tryz.f162, ↓brB_t, ↓brB_f, Nat.reduceAdd, Int.reduceLE, Int.reduceLT, Int.reduceNeg, decide_true, decide_false, Bool.and_self, Nat.succ_eq_add_one, Int.toNat_natCast, Nat.beq_refl, Bool.and_true, Bool.true_and, Bool.false_or, Bool.or_true, List.all_cons, List.all_nil, Nat.reduceMul, Nat.add_zero, Nat.zero_add, List.length_nil, List.length_cons, dite_true, List.nil_append, Nat.reduceBEq, reduceDIte, reduceIte, reduceCtorEq, Bool.or_false, Bool.true_or, Bool.and_false, Bool.false_and, Bool.not_true, Bool.not_false, Option.isSome_some, Option.isSome_none, Option.getD_some, List.getElem?_cons_zero, List.getElem?_cons_succ, eq_self, and_self, List.take_succ_cons, List.take_zero, List.drop_succ_cons, List.drop_zero]
  obtain ⟨⟨hp, hw, hl, rfl⟩, hK⟩ := hK
  clear hok hos
  refine loop_okF (T := tab [c_gAdd]) [0, 2, 10, 11, 12] [(0, 0), (1, 1)] (fun i : Nat => ⟨26, [(0, .val (.one (.ptr 0 0))), (2, vi k), (10, .val (.one (.ro kTerm ts))), (11, vi (ts.length : Nat)), (12, vi i)], [(0, .box t [.v (.int .i64 p), .own 1]), (1, oM (gAll p l k (ts.take i)))]⟩)
    (fun i => i ≤ ts.length) (fun i => ts.length - i) 0 rfl rfl (Nat.zero_le _) (fun i hi => ?_)
  have hgl := gAll_len p l k (ts.take i)
  have htl : (ts.take i).length = i := by rw [List.length_take]; omega
  simp only [go_sem, ↓brB_t, ↓brB_f, Nat.reduceAdd, Int.reduceLE, Int.reduceLT, Int.reduceNeg, decide_true, decide_false, Bool.and_self, Nat.succ_eq_add_one, Int.toNat_natCast, Nat.beq_refl, Bool.and_true, Bool.true_and, Bool.false_or, Bool.or_true, List.all_cons, List.all_nil, Nat.reduceMul, Nat.add_zero, Nat.zero_add, List.length_nil, List.length_cons, dite_true, List.nil_append, Nat.reduceBEq, reduceDIte, reduceIte, reduceCtorEq, Bool.or_false, Bool.true_or, Bool.and_false, Bool.false_and, Bool.not_true, Bool.not_false, Option.isSome_some, Option.isSome_none, Option.getD_some, List.getElem?_cons_zero, List.getElem?_cons_succ, eq_self, and_self, List.take_succ_cons, List.take_zero, List.drop_succ_cons, List.drop_zero]
  refine brB_intro (fun h1 => ?_) (fun h1 => retN [0, 1] rfl ?_)
  · have h1 := of_decide_eq_true h1
    have hs := gAll_s (p := p) (l := l) (k := k) (ts := ts) (i := i) (by omega)
    have hw1 : w64 ((i : Int) + 1) = ((i + 1 : Nat) : Int) := w64_s (n := ts.length) (by omega) (by omega)
    refine ⟨⟨by omega, by omega⟩, ⟨hp, hw _ (getD_memT (show i < ts.length by omega)), by omega, trivial⟩, i + 1, [(0, 0), (1, 1)], by omega, by omega, rfl, ?_⟩
    rw [hw1, hs]; rfl
  · have h1 := of_decide_eq_false h1
    have e : i = ts.length := by omega
    rw [e, List.take_length]; exact hK
def c_gAll : Ctr Tryz.prog := ⟨162, ent Tryz.func162 rfl rfl, [true, false, false], sp_gAll, good_gAll, [false, true]⟩
@[go_sem] theorem c_gAll_f : c_gAll.f = 162 := rfl
@[go_sem] theorem c_gAll_ms : c_gAll.ms = [true, false, false] := rfl
@[go_sem] theorem c_gAll_sp : c_gAll.spec = sp_gAll := rfl
@[go_sem] theorem c_gAll_fz : c_gAll.fz = [false, true] := rfl
attribute [go_sem] sp_gAll
end Go.Proofs.YthfmlelodmcgkaaGreat.V
namespace Go.Proofs.YthfmlelodmcgkaaGreat.V
open Go
def nzT (l : MapL) : TermL := (l.map (·.2)).filter fun x => !decide (x.2 = 0)
theorem nzT_mem {l : MapL} {x : List Int × Int} (h : x ∈ nzT l) : ∃ y ∈ l, y.2 = x := by
  obtain ⟨y, hy, e⟩ := List.mem_map.1 (List.mem_filter.1 h).1
  exact ⟨y, hy, e⟩
theorem nzT_nodup {l : MapL} (h : (l.map (·.2.1)).Nodup) : ((nzT l).map (·.1)).Nodup := by
  have : ((nzT l).map (·.1)).Sublist (l.map (·.2.1)) := by
    have := (List.filter_sublist (p := fun x : List Int × Int => !decide (x.2 = 0)) (l := l.map (·.2))).map (·.1)
    rw [List.map_map] at this
    exact this
  exact List.Sublist.nodup this h
theorem erase_perm {α : Type} : ∀ (l : List α) (j : Nat) (h : j < l.length), l.Perm (l[j] :: l.eraseIdx j)
  | x :: l, 0, _ => List.Perm.refl _
  | x :: l, j + 1, h => by
    have := erase_perm l j (by simpa using h)
    simp only [List.getElem_cons_succ, List.eraseIdx_cons_succ]
    exact (this.cons x).trans (List.Perm.swap ..)
theorem nzT_erase {l : MapL} {j : Nat} (h : j < l.length) : (nzT l).Perm (if (l.getD j (ByteArray.empty, ([], 0))).2.2 = 0 then nzT (l.eraseIdx j) else (l.getD j (ByteArray.empty, ([], 0))).2 :: nzT (l.eraseIdx j)) := by
  have e : l.getD j (ByteArray.empty, ([], 0)) = l[j] := by rw [List.getD_eq_getElem?_getD, List.getElem?_eq_getElem h]; rfl
  rw [e]
  have hp : l.Perm (l[j] :: l.eraseIdx j) := erase_perm l j h
  have := (hp.map (·.2)).filter (fun x => !decide (x.2 = 0))
  unfold nzT
  refine this.trans ?_
  rw [List.map_cons, List.filter_cons]
  split
  · rename_i h1
    rw [if_neg (by simpa using h1)]
  · rename_i h1
    rw [if_pos (by simpa using h1)]
def sp_gSum : List Cv → List Obj' → Tree
  | [.one (.ptr 0 0)], [.box t [.v (.int .i64 p), .own 1], .mp 132 (.pr (.sl 2 (.int .i64)) (.int .i64)) z l] =>
    .need ((l : MapL).length ≤ 1000000 ∧ (∀ x ∈ (l : MapL), x.2.1.length < 1099511627776) ∧ ((l : MapL).map (·.2.1)).Nodup) (.ret (.val (.agg [.v (.int .i64 p), .own 2])) [.box t [.v (.int .i64 p), .own 1], .dead, .drow 87 (.pr (.sl 2 (.int .i64)) (.int .i64)) (sortT (nzT l))])
  | _, _ => .fail
set_option maxHeartbeats 4000000 in
set_option maxRecDepth 100000 in
theorem good_gSum : Good Tryz.prog 124 sp_gSum := by
  refine good_ofF Tryz.func124 rfl _ rfl _ rfl (tab [c_clone, c_sortT]) (fun X cs os0 K hok hos hK => ?_)
  unfold sp_gSum at hK
  split at hK
  case h_2 => exact hK.elim
  rename_i t p z l
  refine ⟨by simp, by simp, ?_⟩
  simp only [go_sem] at hK hok hos
  simp (maxSteps := 4000000) only [go_sem, Tryz.f124, ↓brB_t, ↓brB_f, Nat.reduceAdd, Int.reduceLE, Int.reduceLT, Int.reduceNeg, decide_true, decide_false, Bool.and_self, Nat.succ_eq_add_one, Int.toNat_natCast, Nat.beq_refl, Bool.and_true, Bool.true_and, Bool.false_or, Bool.or_true, List.all_cons, List.all_nil, Nat.reduceMul, Nat.add_zero, Nat.zero_add, List.length_nil, List.length_cons, dite_true, List.nil_append, Nat.reduceBEq, reduceDIte, reduceIte, reduceCtorEq, Bool.or_false, Bool.true_or, Bool.and_false, Bool.false_and, Bool.not_true, Bool.not_false, Option.isSome_some, Option.isSome_none, Option.getD_some, List.getElem?_cons_zero, List.getElem?_cons_succ, eq_self, and_self, List.take_succ_cons, List.take_zero, List.drop_succ_cons, List.drop_zero]
  obtain ⟨⟨hl, hw, hn⟩, hK⟩ := hK
  clear hok hos
  refine holds_sub (sub_mat (ms := [⟨.cell 64 1, 19, tI, kTerm⟩]) rfl) ?_
  refine loop_okF (T := tab [c_clone, c_sortT]) [2, 3, 15] [(0, 0), (1, 1), (16, 48), (17, 64), (18, 256), (19, 19)] (fun s : TermL × MapL × Option (ByteArray × (List Int × Int)) => ⟨38, [(2, .val (.one (.ptr 16 0))), (3, .val (.one (.ptr 17 0))), (15, .val (.one (.ptr 18 0)))],
      [(0, .box t [.v (.int .i64 p), .own 1]), (1, .dead), (16, .box 31 [.v (.int .i64 0), .v (.slice none 0 0)]), (17, .box 31 [.v (.int .i64 p), .own 19]), (18, .mit kTerm s.2.1 s.2.2), (19, .drow tI kTerm s.1)]⟩)
    (fun s => (s.1 ++ nzT s.2.1).Perm (nzT l) ∧ s.1.length + s.2.1.length ≤ l.length ∧ ∀ x ∈ s.2.1, x ∈ (l : MapL)) (fun s => s.2.1.length) ([], l, none) rfl rfl ⟨by simp, by simp, fun x hx => hx⟩ (fun s hs => ?_)
  obtain ⟨out, rem, cur⟩ := s
  obtain ⟨h1, h2, h3⟩ := hs
  simp only at h1 h2 h3
  simp only [go_sem, ↓brB_t, ↓brB_f, Nat.reduceAdd, Int.reduceLE, Int.reduceLT, Int.reduceNeg, decide_true, decide_false, Bool.and_self, Nat.succ_eq_add_one, Int.toNat_natCast, Nat.beq_refl, Bool.and_true, Bool.true_and, Bool.false_or, Bool.or_true, List.all_cons, List.all_nil, Nat.reduceMul, Nat.add_zero, Nat.zero_add, List.length_nil, List.length_cons, dite_true, List.nil_append, Nat.reduceBEq, reduceDIte, reduceIte, reduceCtorEq, Bool.or_false, Bool.true_or, Bool.and_false, Bool.false_and, Bool.not_true, Bool.not_false, Option.isSome_some, Option.isSome_none, Option.getD_some, List.getElem?_cons_zero, List.getElem?_cons_succ, eq_self, and_self, List.take_succ_cons, List.take_zero, List.drop_succ_cons, List.drop_zero]
  have hout : ∀ x ∈ out, x ∈ nzT l := fun x hx => h1.mem_iff.1 (List.mem_append_left _ hx)
  have hnz := nzT_nodup hn
  refine brB_intro (fun h4 => ?_) (fun h4 j hj => ?_)
  · have hr : rem = [] := by simpa using h4
    subst hr
    have h1 : out.Perm (nzT l) := by simpa [nzT] using h1
    have hs : sortT out = sortT (nzT l) := sortT_eq (sortT_sorted hnz) ((h1.map _).nodup_iff.2 hnz) fun x => (h1.mem_iff).trans sortT_mem.symm
    refine ⟨⟨trivial, by omega, fun x hx => ?_, (h1.map _).nodup_iff.2 hnz⟩, retN [0, 1, 19] rfl ?_⟩
    · obtain ⟨y, hy, rfl⟩ := nzT_mem (hout x hx)
      exact Nat.le_of_lt (hw y hy)
    · rw [hs]; exact hK
  · have e : rem[j]? = some (rem.getD j (ByteArray.empty, ([], 0))) := by rw [List.getD_eq_getElem?_getD, List.getElem?_eq_getElem hj]; rfl
    have hm : rem.getD j (ByteArray.empty, ([], 0)) ∈ rem := by
      rw [List.getD_eq_getElem?_getD, List.getElem?_eq_getElem hj]; exact List.getElem_mem _
    have hp := nzT_erase hj
    have hwx := hw _ (h3 _ hm)
    have hel := List.length_eraseIdx_of_lt hj
    have hee : ∀ x ∈ rem.eraseIdx j, x ∈ (l : MapL) := fun x hx => h3 x (List.mem_of_mem_eraseIdx hx)
    rw [e]
    generalize rem.getD j (ByteArray.empty, ([], 0)) = y at *
    simp only [go_sem, ↓brB_t, ↓brB_f, Nat.reduceAdd, Int.reduceLE, Int.reduceLT, Int.reduceNeg, decide_true, decide_false, Bool.and_self, Nat.succ_eq_add_one, Int.toNat_natCast, Nat.beq_refl, Bool.and_true, Bool.true_and, Bool.false_or, Bool.or_true, List.all_cons, List.all_nil, Nat.reduceMul, Nat.add_zero, Nat.zero_add, List.length_nil, List.length_cons, dite_true, List.nil_append, Nat.reduceBEq, reduceDIte, reduceIte, reduceCtorEq, Bool.or_false, Bool.true_or, Bool.and_false, Bool.false_and, Bool.not_true, Bool.not_false, Option.isSome_some, Option.isSome_none, Option.getD_some, List.getElem?_cons_zero, List.getElem?_cons_succ, eq_self, and_self, List.take_succ_cons, List.take_zero, List.drop_succ_cons, List.drop_zero]
    refine brB_intro (fun h5 => ?_) (fun h5 => ?_)
    · rw [if_neg (of_decide_eq_false (snb h5))] at hp
      refine ⟨hwx, by omega, by kernel_rfl, (out ++ [y.2], rem.eraseIdx j, some y), [(0, 0), (1, 1), (16, 16), (17, 17), (18, 18), (19, 528)], ⟨?_, ?_, hee⟩, ?_, rfl, rfl⟩
      · refine List.Perm.trans ?_ ((hp.symm.append_left out).trans h1)
        rw [List.append_assoc]
        exact List.Perm.refl _
      · show (out ++ [y.2]).length + (rem.eraseIdx j).length ≤ _
        rw [List.length_append, List.length_singleton]
        omega
      · show (rem.eraseIdx j).length < rem.length
        omega
    · rw [if_pos (of_decide_eq_true (snb' h5))] at hp
      refine ⟨(out, rem.eraseIdx j, some y), [(0, 0), (1, 1), (16, 16), (17, 17), (18, 18), (19, 19)], ⟨(hp.symm.append_left out).trans h1, ?_, hee⟩, ?_, rfl, rfl⟩
      · show out.length + (rem.eraseIdx j).length ≤ _
        omega
      · show (rem.eraseIdx j).length < rem.length
        omega
def c_gSum : Ctr Tryz.prog := ⟨124, ent Tryz.func124 rfl rfl, [true], sp_gSum, good_gSum, []⟩
@[go_sem] theorem c_gSum_f : c_gSum.f = 124 := rfl
@[go_sem] theorem c_gSum_ms : c_gSum.ms = [true] := rfl
@[go_sem] theorem c_gSum_sp : c_gSum.spec = sp_gSum := rfl
@[go_sem] theorem c_gSum_fz : c_gSum.fz = [] := rfl
attribute [go_sem] sp_gSum
end Go.Proofs.YthfmlelodmcgkaaGreat.V
namespace Go.Proofs.YthfmlelodmcgkaaGreat.V
open Go
def smB (w : List Int) : Prop := w.length ≤ 24 ∧ ∀ x ∈ w, 0 ≤ x ∧ x < 100
theorem sm_of {w : List Int} (h : isW w = true) : smB w := by
  rw [Go.Proofs.YthfmlelodmcgkaaGreat.L.isW_eq] at h
  obtain ⟨h1, h2⟩ := Go.Proofs.YthfmlelodmcgkaaGreat.L.word_range h
  exact ⟨by omega, fun x hx => by have := h2 x hx; omega⟩
theorem letter_small {x : Int} (h0 : 0 ≤ x) (h1 : x < 100) : letter x = 97 + x := by unfold letter; omega
theorem bytesS_data (l : List Int) : (bytesS l).data.toList = l.map fun n => UInt8.ofNat n.toNat := by
  have h : ∀ (l : List Int) (r : ByteArray), (l.foldl (fun r n => r.push (UInt8.ofNat n.toNat)) r).data.toList = r.data.toList ++ l.map fun n => UInt8.ofNat n.toNat := fun l => by
    induction l with
    | nil => intro r; simp
    | cons x l ih =>
      intro r
      rw [List.foldl_cons, ih]
      cases r
      simp [ByteArray.push]
  unfold bytesS
  rw [h]
  simp
theorem textB_inj : ∀ {a b : List Int}, smB a → smB b → textB a = textB b → a = b := by
  intro a b ha0 hb0 h0
  have h := congrArg (fun s : ByteArray => s.data.toList) h0
  unfold textB at h
  simp only [bytesS_data, List.map_map] at h
  have ha := ha0.2
  have hb := hb0.2
  clear ha0 hb0 h0
  induction a generalizing b with
  | nil =>
    cases b with
    | nil => rfl
    | cons _ _ => simp at h
  | cons x a ih =>
    cases b with
    | nil => simp at h
    | cons y b =>
      simp only [List.map_cons, List.cons.injEq] at h
      obtain ⟨h1, h2⟩ := h
      rw [ih h2 (fun z hz => ha z (List.mem_cons_of_mem _ hz)) (fun z hz => hb z (List.mem_cons_of_mem _ hz))]
      obtain ⟨a0, a1⟩ := ha x List.mem_cons_self
      obtain ⟨b0, b1⟩ := hb y List.mem_cons_self
      have e := congrArg UInt8.toNat h1
      simp only [Function.comp, letter_small a0 a1, letter_small b0 b1, UInt8.toNat_ofNat'] at e
      congr 1
      omega
structure GRep (l : MapL) (c : List Int → Int) : Prop where
  nodup : (l.map (·.1)).Nodup
  key : ∀ x ∈ l, x.1 = textB x.2.1 ∧ smB x.2.1
  val : ∀ w, smB w → gAt l w = c w
theorem find_mem {l : MapL} {s : ByteArray} {x : List Int × Int} (h : findK l s = some x) : (s, x) ∈ l := by
  induction l with
  | nil => cases h
  | cons p r ih =>
    unfold findK at h
    split at h
    · rename_i e
      injection h with h
      rw [← e, ← h]
      exact List.mem_cons_self
    · exact List.mem_cons_of_mem _ (ih h)
theorem find_of {l : MapL} {s : ByteArray} {x : List Int × Int} (hn : (l.map (·.1)).Nodup) (h : (s, x) ∈ l) : findK l s = some x := by
  induction l with
  | nil => cases h
  | cons p r ih =>
    simp only [List.map_cons, List.nodup_cons] at hn
    unfold findK
    rcases List.mem_cons.1 h with rfl | h
    · rw [if_pos rfl]
    · rw [if_neg (fun e => hn.1 (by rw [e]; exact List.mem_map.2 ⟨_, h, rfl⟩))]
      exact ih hn.2 h
theorem find_put (l : MapL) (s s' : ByteArray) (x : List Int × Int) : findK (putK l s x) s' = if s = s' then some x else findK l s' := by
  induction l with
  | nil =>
    simp only [putK, findK]
  | cons p r ih =>
    unfold putK
    by_cases h : p.1 = s
    · rw [if_pos h]
      simp only [findK, h]
      split <;> rfl
    · rw [if_neg h]
      simp only [findK, ih]
      by_cases h2 : p.1 = s'
      · rw [if_pos h2, if_neg (fun e => h (h2.trans e.symm)), if_pos h2]
      · rw [if_neg h2, if_neg h2]
theorem mem_put {l : MapL} {s : ByteArray} {x : List Int × Int} {y : ByteArray × (List Int × Int)} (h : y ∈ putK l s x) : y = (s, x) ∨ y ∈ l := by
  induction l with
  | nil => simpa [putK] using h
  | cons p r ih =>
    unfold putK at h
    split at h
    · rcases List.mem_cons.1 h with h | h
      · exact .inl h
      · exact .inr (List.mem_cons_of_mem _ h)
    · rcases List.mem_cons.1 h with h | h
      · exact .inr (h ▸ List.mem_cons_self)
      · exact (ih h).imp id (List.mem_cons_of_mem _)
def cAdd (p : Int) (c : List Int → Int) (w : List Int) (v : Int) : List Int → Int := fun u => if u = w then modI p (w64 (c w + v)) else c u
theorem GRep.nil : GRep [] fun _ => 0 := ⟨List.nodup_nil, (fun _ h => by cases h), fun _ _ => rfl⟩
theorem GRep.add {l : MapL} {c : List Int → Int} (h : GRep l c) (p : Int) {w : List Int} (hw : smB w) (v : Int) : GRep (gAdd p l w v) (cAdd p c w v) := by
  refine ⟨putK_nodup h.nodup, fun x hx => ?_, fun u hu => ?_⟩
  · rcases mem_put hx with rfl | hx
    · exact ⟨rfl, hw⟩
    · exact h.key x hx
  · unfold gAt gAdd cAdd
    rw [find_put]
    by_cases e : u = w
    · subst e
      rw [if_pos rfl, if_pos rfl, ← h.val u hu]
      rfl
    · rw [if_neg (fun h => e (textB_inj hw hu h).symm), if_neg e]
      exact h.val u hu
theorem GRep.words {l : MapL} {c : List Int → Int} (h : GRep l c) : (l.map (·.2.1)).Nodup := by
  have hn := h.nodup
  have hk := h.key
  clear h
  induction l with
  | nil => exact List.nodup_nil
  | cons x l ih =>
    simp only [List.map_cons, List.nodup_cons] at hn ⊢
    refine ⟨fun hm => hn.1 ?_, ih hn.2 (fun y hy => hk y (List.mem_cons_of_mem _ hy))⟩
    obtain ⟨y, hy, e⟩ := List.mem_map.1 hm
    rw [(hk x List.mem_cons_self).1, ← e, ← (hk y (List.mem_cons_of_mem _ hy)).1]
    exact List.mem_map.2 ⟨y, hy, rfl⟩
theorem GRep.mem {l : MapL} {c : List Int → Int} (h : GRep l c) (x : List Int × Int) : x ∈ nzT l ↔ smB x.1 ∧ x.2 = c x.1 ∧ x.2 ≠ 0 := by
  constructor
  · intro hx
    have h0 : x.2 ≠ 0 := by simpa using (List.mem_filter.1 hx).2
    obtain ⟨y, hy, rfl⟩ := nzT_mem hx
    obtain ⟨k1, k2⟩ := h.key y hy
    refine ⟨k2, ?_, h0⟩
    have : findK l (textB y.2.1) = some y.2 := find_of h.nodup (by rw [← k1]; exact hy)
    rw [← h.val _ k2, gAt, this]; rfl
  · rintro ⟨h1, h2, h3⟩
    have hv := h.val x.1 h1
    unfold gAt at hv
    cases e : findK l (textB x.1) with
    | none =>
      rw [e] at hv
      exact absurd (h2.trans hv.symm) h3
    | some y =>
      rw [e] at hv
      have hm := find_mem e
      obtain ⟨k1, k2⟩ := h.key _ hm
      have ey : y.1 = x.1 := (textB_inj h1 k2 k1).symm
      have e2 : y = x := by
        have hv : y.2 = c x.1 := hv
        have : y.2 = x.2 := hv.trans h2.symm
        cases y; cases x; simp_all
      rw [e2] at hm
      exact List.mem_filter.2 ⟨List.mem_map.2 ⟨_, hm, rfl⟩, by simpa using h3⟩
structure SRep (ts : TermL) (c : List Int → Int) : Prop where
  sorted : SortedT ts
  mem : ∀ x, x ∈ ts ↔ smB x.1 ∧ x.2 = c x.1 ∧ x.2 ≠ 0
theorem SRep.nil : SRep [] fun _ => 0 := ⟨List.Pairwise.nil, fun x => ⟨(fun h => by cases h), fun h => absurd h.2.1 h.2.2⟩⟩
theorem GRep.sum {l : MapL} {ts : TermL} {c : List Int → Int} (h : GRep l c) (k : SRep ts c) : sortT (nzT l) = ts :=
  sortT_eq k.sorted (nzT_nodup h.words) fun x => (h.mem x).trans (k.mem x).symm
theorem at_mem : ∀ {ts : TermL} {x : List Int × Int}, SortedT ts → x ∈ ts → atT ts x.1 = x.2
  | y :: ts, x, hs, hx => by
    obtain ⟨h1, h2⟩ := List.pairwise_cons.1 hs
    rw [atT]
    rcases List.mem_cons.1 hx with rfl | hx
    · rw [if_pos rfl]
    · rw [if_neg (fun e => by have := h1 x hx; rw [e, before_irrefl] at this; cases this)]
      exact at_mem h2 hx
theorem at_none : ∀ {ts : TermL} {w : List Int}, (∀ x ∈ ts, x.1 ≠ w) → atT ts w = 0
  | [], _, _ => rfl
  | y :: ts, w, h => by
    rw [atT, if_neg (h y List.mem_cons_self)]
    exact at_none fun x hx => h x (List.mem_cons_of_mem _ hx)
theorem SRep.at {ts : TermL} {c : List Int → Int} (h : SRep ts c) {w : List Int} (hw : smB w) : atT ts w = c w := by
  by_cases e : c w = 0
  · rw [e]
    refine at_none fun x hx ex => ?_
    obtain ⟨_, h2, h3⟩ := (h.mem x).1 hx
    rw [ex, e] at h2
    exact h3 h2
  · exact at_mem (x := (w, c w)) h.sorted ((h.mem (w, c w)).2 ⟨hw, rfl, e⟩)
def insV (w : List Int) (v : Int) : TermL → TermL
  | [] => [(w, v)]
  | x :: r => if beforeB w x.1 = true then (w, v) :: (x :: r).filter (fun y => !decide (y.1 = w)) else if x.1 = w then insV w v r else x :: insV w v r
theorem foldT (w : List Int) (v : Int) : ∀ (ts acc : TermL), ts.foldl (fun s x => jB w (jA w v s x) x) (acc, true) = (acc ++ ts.filter (fun y => !decide (y.1 = w)), true)
  | [], acc => by simp
  | x :: r, acc => by
    rw [List.foldl_cons]
    have e : jB w (jA w v (acc, true) x) x = (acc ++ (if x.1 = w then [] else [x]), true) := by
      unfold jB jA
      simp only [Bool.not_true, Bool.false_and, Bool.false_eq_true, if_false]
      split <;> simp
    rw [e, foldT w v r]
    rw [List.filter_cons]
    by_cases h : x.1 = w
    · simp [h]
    · simp [h]
theorem foldF (w : List Int) (v : Int) : ∀ (ts acc : TermL), jE w v (ts.foldl (fun s x => jB w (jA w v s x) x) (acc, false)) = acc ++ insV w v ts
  | [], acc => by simp [jE, insV]
  | x :: r, acc => by
    rw [List.foldl_cons]
    by_cases h : beforeB w x.1 = true
    · have hne : ¬ x.1 = w := fun e => by rw [e, before_irrefl] at h; cases h
      have e : jB w (jA w v (acc, false) x) x = (acc ++ [(w, v)] ++ [x], true) := by
        unfold jB jA
        simp only [Bool.not_false, Bool.true_and, h, if_true, if_neg hne]
      rw [e, foldT, jE, if_pos rfl, insV, if_pos h, List.filter_cons]
      simp [hne]
    · by_cases h2 : x.1 = w
      · have e : jB w (jA w v (acc, false) x) x = (acc, false) := by
          unfold jB jA
          simp only [Bool.not_false, Bool.true_and, h, if_pos h2]
          rfl
        rw [e, foldF w v r, insV, if_neg h, if_pos h2]
      · have e : jB w (jA w v (acc, false) x) x = (acc ++ [x], false) := by
          unfold jB jA
          simp only [Bool.not_false, Bool.true_and, h, if_neg h2]
          rfl
        rw [e, foldF w v r, insV, if_neg h, if_neg h2]
        simp
theorem jT_ins (p : Int) (ts : TermL) (w : List Int) (v : Int) : jT p ts w v = if modI p (w64 (v + atT ts w)) = 0 then ts.filter (fun y => !decide (y.1 = w)) else insV w (modI p (w64 (v + atT ts w))) ts := by
  unfold jT jF
  generalize modI p (w64 (v + atT ts w)) = v'
  by_cases h : v' = 0
  · rw [if_pos h, decide_eq_true h, foldT, jE, if_pos rfl, List.nil_append]
  · rw [if_neg h, decide_eq_false h, foldF, List.nil_append]
theorem ins_mem {w : List Int} {v : Int} {y : List Int × Int} : ∀ {ts : TermL}, SortedT ts → (y ∈ insV w v ts ↔ y = (w, v) ∨ (y ∈ ts ∧ y.1 ≠ w))
  | [], _ => by simp [insV]
  | x :: r, hs => by
    obtain ⟨h1, h2⟩ := List.pairwise_cons.1 hs
    unfold insV
    split
    · simp
    · split
      · rename_i e
        rw [ins_mem h2, List.mem_cons]
        constructor
        · rintro (h | ⟨h, k⟩)
          · exact .inl h
          · exact .inr ⟨.inr h, k⟩
        · rintro (h | ⟨h | h, k⟩)
          · exact .inl h
          · exact absurd (h ▸ e) k
          · exact .inr ⟨h, k⟩
      · rename_i e
        rw [List.mem_cons, ins_mem h2, List.mem_cons]
        constructor
        · rintro (h | h | ⟨h, k⟩)
          · exact .inr ⟨.inl h, h ▸ e⟩
          · exact .inl h
          · exact .inr ⟨.inr h, k⟩
        · rintro (h | ⟨h | h, k⟩)
          · exact .inr (.inl h)
          · exact .inl h
          · exact .inr (.inr ⟨h, k⟩)
theorem ins_sorted {w : List Int} {v : Int} : ∀ {ts : TermL}, SortedT ts → SortedT (insV w v ts)
  | [], _ => List.pairwise_singleton ..
  | x :: r, hs => by
    obtain ⟨h1, h2⟩ := List.pairwise_cons.1 hs
    unfold insV
    split
    · rename_i h
      refine List.pairwise_cons.2 ⟨fun y hy => ?_, hs.filter _⟩
      rcases List.mem_cons.1 (List.mem_filter.1 hy).1 with rfl | hy
      · exact h
      · exact before_trans h (h1 y hy)
    · rename_i h
      split
      · exact ins_sorted h2
      · rename_i e
        refine List.pairwise_cons.2 ⟨fun y hy => ?_, ins_sorted h2⟩
        rcases (ins_mem h2).1 hy with rfl | ⟨hy, _⟩
        · exact before_of (by simpa using h) e
        · exact h1 y hy
theorem SRep.put {ts : TermL} {c : List Int → Int} (h : SRep ts c) (p : Int) {w : List Int} (hw : smB w) (v : Int) : SRep (jT p ts w v) (cAdd p c w v) := by
  rw [jT_ins, h.at hw, Int.add_comm v]
  by_cases e : modI p (w64 (c w + v)) = 0
  · rw [if_pos e]
    refine ⟨h.sorted.filter _, fun x => ?_⟩
    rw [List.mem_filter, h.mem]
    unfold cAdd
    constructor
    · rintro ⟨⟨k1, k2, k3⟩, k4⟩
      have k4 : x.1 ≠ w := by simpa using k4
      rw [if_neg k4]
      exact ⟨k1, k2, k3⟩
    · rintro ⟨k1, k2, k3⟩
      by_cases ew : x.1 = w
      · rw [if_pos ew, e] at k2
        exact absurd k2 k3
      · rw [if_neg ew] at k2
        exact ⟨⟨k1, k2, k3⟩, by simpa using ew⟩
  · rw [if_neg e]
    refine ⟨ins_sorted h.sorted, fun x => ?_⟩
    rw [ins_mem h.sorted, h.mem]
    unfold cAdd
    constructor
    · rintro (rfl | ⟨⟨k1, k2, k3⟩, k4⟩)
      · exact ⟨hw, by rw [if_pos rfl], e⟩
      · rw [if_neg k4]
        exact ⟨k1, k2, k3⟩
    · rintro ⟨k1, k2, k3⟩
      by_cases ew : x.1 = w
      · rw [if_pos ew] at k2
        refine .inl ?_
        cases x
        simp only at ew k2
        rw [ew, k2]
      · rw [if_neg ew] at k2
        exact .inr ⟨⟨k1, k2, k3⟩, ew⟩
end Go.Proofs.YthfmlelodmcgkaaGreat.V
end
section
namespace Go.Proofs.YthfmlelodmcgkaaGreat.V
open Go
def cF (p : Int) (c : List Int → Int) (ts : TermL) : List Int → Int := ts.foldl (fun c x => cAdd p c x.1 x.2) c
theorem cF_s (p : Int) (c : List Int → Int) (ts : TermL) (x : List Int × Int) : cF p c (ts ++ [x]) = cAdd p (cF p c ts) x.1 x.2 := by rw [cF, List.foldl_append]; rfl
theorem cF_app (p : Int) (c : List Int → Int) (a b : TermL) : cF p c (a ++ b) = cF p (cF p c a) b := by rw [cF, List.foldl_append]; rfl
def jS (p : Int) (ts : TermL) : TermL := ts.foldl (fun us x => jT p us x.1 x.2) []
theorem jS_s (p : Int) (ts : TermL) (x : List Int × Int) : jS p (ts ++ [x]) = jT p (jS p ts) x.1 x.2 := by rw [jS, List.foldl_append]; rfl
theorem snoc_ind {q : TermL → Prop} (h0 : q []) (h1 : ∀ a x, q a → q (a ++ [x])) (a : TermL) : q a := by
  have h : ∀ b : TermL, q b.reverse := fun b => by
    induction b with
    | nil => exact h0
    | cons x b ih => rw [List.reverse_cons]; exact h1 _ _ ih
  have := h a.reverse
  rwa [List.reverse_reverse] at this
theorem jS_rep (p : Int) (ts : TermL) (h : ∀ x ∈ ts, smB x.1) : SRep (jS p ts) (cF p (fun _ => 0) ts) := by
  revert h
  refine snoc_ind (q := fun ts => (∀ x ∈ ts, smB x.1) → SRep (jS p ts) (cF p (fun _ => 0) ts)) (fun _ => SRep.nil) (fun a x ih h => ?_) ts
  rw [jS_s, cF_s]
  exact (ih fun y hy => h y (List.mem_append_left _ hy)).put p (h x (List.mem_append_right _ (List.mem_singleton.2 rfl))) x.2
theorem jS_len (p : Int) (ts : TermL) : (jS p ts).length ≤ ts.length := by
  refine snoc_ind (q := fun ts => (jS p ts).length ≤ ts.length) (Nat.le_refl _) (fun a x ih => ?_) ts
  rw [jS_s, List.length_append, List.length_singleton]
  have := jT_len p (jS p a) x.1 x.2
  omega
theorem jS_q {p : Int} {q : List Int → Prop} {ts : TermL} (h : ∀ x ∈ ts, q x.1) : ∀ x ∈ jS p ts, q x.1 := by
  induction ts using snoc_ind with
  | h0 => intro x hx; cases hx
  | h1 a y ih =>
    rw [jS_s]
    intro x hx
    have ih := ih (fun z hz => h z (List.mem_append_left _ hz))
    rcases jT_mem hx with e | hm
    · rw [e]; exact h y (List.mem_append_right _ (List.mem_singleton.2 rfl))
    · exact ih x hm
theorem isW_len {w : List Int} (h : isW w = true) : w.length ≤ 12 := (Go.Proofs.YthfmlelodmcgkaaGreat.L.word_range (by rw [← Go.Proofs.YthfmlelodmcgkaaGreat.L.isW_eq]; exact h)).1
abbrev tS' : TypeId := 31
end Go.Proofs.YthfmlelodmcgkaaGreat.V
end
section
namespace Go.Proofs.YthfmlelodmcgkaaGreat.V
open Go
def wS : TermL → List Int → Int
  | [], _ => 0
  | x :: r, u => (if x.1 = u then x.2 else 0) + wS r u
theorem wS_append (a b : TermL) (u : List Int) : wS (a ++ b) u = wS a u + wS b u := by
  induction a with
  | nil => simp [wS]
  | cons x a ih => rw [List.cons_append, wS, wS, ih]; omega
theorem cF_val {p : Int} (h0 : 0 < p) (h1 : p ≤ 1000) : ∀ (ts : TermL) (c : List Int → Int), (∀ x ∈ ts, -1000000 ≤ x.2 ∧ x.2 ≤ 1000000) → (∀ u, 0 ≤ c u ∧ c u < p) → ∀ u, cF p c ts u = (c u + wS ts u) % p
  | [], c, _, hc, u => by
    have := hc u
    rw [wS, Int.add_zero, Int.emod_eq_of_lt this.1 this.2]; rfl
  | x :: ts, c, hx, hc, u => by
    have e : ∀ v, cAdd p c x.1 x.2 v = if v = x.1 then (c x.1 + x.2) % p else c v := fun v => by
      have := hc x.1
      have := hx x List.mem_cons_self
      unfold cAdd
      rw [modI_e h0 h1, w64_id (by omega) (by omega)]
    show cF p (cAdd p c x.1 x.2) ts u = _
    rw [cF_val h0 h1 ts _ (fun y hy => hx y (List.mem_cons_of_mem _ hy)) (fun v => by
      rw [e]
      split
      · exact ⟨Int.emod_nonneg _ (by omega), Int.emod_lt_of_pos _ h0⟩
      · exact hc v), e, wS]
    by_cases hu : u = x.1
    · subst hu
      rw [if_pos rfl, if_pos rfl, Int.emod_add_emod, Int.add_assoc]
    · rw [if_neg hu, if_neg (Ne.symm hu), Int.zero_add]
theorem cF_eq {p : Int} (h0 : 0 < p) (h1 : p ≤ 1000) {a b : TermL} (ha : ∀ x ∈ a, -1000000 ≤ x.2 ∧ x.2 ≤ 1000000) (hb : ∀ x ∈ b, -1000000 ≤ x.2 ∧ x.2 ≤ 1000000) (h : ∀ u, wS a u % p = wS b u % p) : cF p (fun _ => 0) a = cF p (fun _ => 0) b := by
  funext u
  rw [cF_val h0 h1 a _ ha (fun _ => ⟨Int.le_refl 0, h0⟩), cF_val h0 h1 b _ hb (fun _ => ⟨Int.le_refl 0, h0⟩), Int.zero_add, Int.zero_add, h u]
def gS (p : Int) (l : MapL) (ts : TermL) : MapL := ts.foldl (fun l x => gAdd p l x.1 x.2) l
theorem gS_app (p : Int) (l : MapL) (a b : TermL) : gS p l (a ++ b) = gS p (gS p l a) b := by rw [gS, List.foldl_append]; rfl
theorem gS_len (p : Int) : ∀ (ts : TermL) (l : MapL), (gS p l ts).length ≤ l.length + ts.length
  | [], l => Nat.le_refl _
  | x :: ts, l => by
    have h1 := gS_len p ts (gAdd p l x.1 x.2)
    have h2 := gAdd_len p l x.1 x.2
    have e : gS p l (x :: ts) = gS p (gAdd p l x.1 x.2) ts := rfl
    rw [e, List.length_cons]; omega
theorem gS_rep (p : Int) : ∀ (ts : TermL) (l : MapL) (c : List Int → Int), GRep l c → (∀ x ∈ ts, smB x.1) → GRep (gS p l ts) (cF p c ts)
  | [], l, c, h, _ => h
  | x :: ts, l, c, h, hw => gS_rep p ts _ _ (h.add p (hw x List.mem_cons_self) x.2) (fun y hy => hw y (List.mem_cons_of_mem _ hy))
end Go.Proofs.YthfmlelodmcgkaaGreat.V
end
section
namespace Go.Proofs.YthfmlelodmcgkaaGreat.V
open Go
abbrev kSum : Kn := .pr (.int .i64) (.sl 87 kTerm)
abbrev ChT := HT [Kn.sl 2 (.int .i64)] → Option (Int × TermL)
def chS (f : ChT) (w : List Int) : TermL := ((f (w, ())).getD (0, [])).2
def gCh (p : Int) (f : ChT) (ts : TermL) : MapL := ts.foldl (fun l x => gAll p l x.2 (chS f x.1)) []
theorem gCh_s {p : Int} {f : ChT} {ts : TermL} {i : Nat} (h : i < ts.length) : gCh p f (ts.take (i + 1)) = gAll p (gCh p f (ts.take i)) (ts.getD i ([], 0)).2 (chS f (ts.getD i ([], 0)).1) := by
  have e : ts.getD i ([], 0) = ts[i] := by rw [List.getD_eq_getElem?_getD, List.getElem?_eq_getElem h]; rfl
  rw [gCh, List.take_succ_eq_append_getElem h, List.foldl_append, e]; rfl
theorem gCh_len {p : Int} {f : ChT} {ts : TermL} (h : ∀ x ∈ ts, (chS f x.1).length ≤ 100) (i : Nat) : (gCh p f (ts.take i)).length ≤ 100 * i := by
  induction i with
  | zero => simp [gCh]
  | succ i ih =>
    by_cases hi : i < ts.length
    · rw [gCh_s hi]
      have := gAll_len p (gCh p f (ts.take i)) (ts.getD i ([], 0)).2 (chS f (ts.getD i ([], 0)).1)
      have := h _ (getD_memT hi)
      omega
    · rw [List.take_of_length_le (by omega)] at ih ⊢
      omega
def sp_changed : List Cv → List Obj' → Tree
  | [.agg [.v (.int .i64 p), .ro (.pr (.sl 2 (.int .i64)) (.int .i64)) ts], .one (.pf [.sl 2 (.int .i64)] (.pr (.int .i64) (.sl 87 (.pr (.sl 2 (.int .i64)) (.int .i64)))) f)], [] =>
    .need (p ≠ 0 ∧ (ts : TermL).length ≤ 200 ∧ (∀ x ∈ (ts : TermL), (f (x.1, ())).isSome = true ∧ (chS f x.1).length ≤ 100 ∧ ∀ y ∈ chS f x.1, y.1.length < 1099511627776) ∧ ∃ c, GRep (gCh p f ts) c) (.ret (.val (.agg [.v (.int .i64 p), .own 0])) [.drow 87 (.pr (.sl 2 (.int .i64)) (.int .i64)) (sortT (nzT (gCh p f ts)))])
  | _, _ => .fail
set_option maxHeartbeats 4000000 in
set_option maxRecDepth 100000 in
theorem good_changed : Good Tryz.prog 137 sp_changed := by
  refine good_ofF Tryz.func137 rfl _ rfl _ rfl (tab [c_newG, c_gAll, c_gSum]) (fun X cs os0 K hok hos hK => ?_)
  clear hos; unfold sp_changed at hK
  split at hK
  case h_2 => exact hK.elim
  rename_i p ts f
  refine ⟨by simp, by simp, ?_⟩
  simp only [go_sem] at hK hok
  simp (maxSteps := 4000000) only [go_sem, Tryz.f137, ↓brB_t, ↓brB_f, Nat.reduceAdd, Int.reduceLE, Int.reduceLT, Int.reduceNeg, decide_true, decide_false, Bool.and_self, Nat.succ_eq_add_one, Int.toNat_natCast, Nat.beq_refl, Bool.and_true, Bool.true_and, Bool.false_or, Bool.or_true, List.all_cons, List.all_nil, Nat.reduceMul, Nat.add_zero, Nat.zero_add, List.length_nil, List.length_cons, dite_true, List.nil_append, Nat.reduceBEq, reduceDIte, reduceIte, reduceCtorEq, Bool.or_false, Bool.true_or, Bool.and_false, Bool.false_and, Bool.not_true, Bool.not_false, Option.isSome_some, Option.isSome_none, Option.getD_some, List.getElem?_cons_zero, List.getElem?_cons_succ, eq_self, and_self, List.take_succ_cons, List.take_zero, List.drop_succ_cons, List.drop_zero]
  obtain ⟨⟨hp, hl, hw, hg⟩, hK⟩ := hK
  clear hok
  refine loop_okF (T := tab [c_newG, c_gAll, c_gSum]) [1, 4, 5, 12, 13, 14] [(16, 80), (17, 176), (18, 177)] (fun i : Nat => ⟨29, [(1, .val (.one (.pf [.sl 2 (.int .i64)] kSum f))), (4, .val (.one (.ptr 16 0))), (5, .val (.one (.ptr 17 0))), (12, .val (.one (.ro kTerm ts))), (13, vi (ts.length : Nat)), (14, vi i)],
      [(16, .box 31 [.v (.int .i64 0), .v (.slice none 0 0)]), (17, oG p 18), (18, oM (gCh p f (ts.take i)))]⟩)
    (fun i => i ≤ ts.length) (fun i => ts.length - i) 0 rfl rfl (Nat.zero_le _) (fun i hi => ?_)
  have hgl := gCh_len (p := p) (f := f) (fun x hx => (hw x hx).2.1) i
  simp only [go_sem, ↓brB_t, ↓brB_f, Nat.reduceAdd, Int.reduceLE, Int.reduceLT, Int.reduceNeg, decide_true, decide_false, Bool.and_self, Nat.succ_eq_add_one, Int.toNat_natCast, Nat.beq_refl, Bool.and_true, Bool.true_and, Bool.false_or, Bool.or_true, List.all_cons, List.all_nil, Nat.reduceMul, Nat.add_zero, Nat.zero_add, List.length_nil, List.length_cons, dite_true, List.nil_append, Nat.reduceBEq, reduceDIte, reduceIte, reduceCtorEq, Bool.or_false, Bool.true_or, Bool.and_false, Bool.false_and, Bool.not_true, Bool.not_false, Option.isSome_some, Option.isSome_none, Option.getD_some, List.getElem?_cons_zero, List.getElem?_cons_succ, eq_self, and_self, List.take_succ_cons, List.take_zero, List.drop_succ_cons, List.drop_zero]
  refine brB_intro (fun h1 => ?_) (fun h1 => ?_)
  · have h1 := of_decide_eq_true h1
    have hs := gCh_s (p := p) (f := f) (ts := ts) (i := i) (by omega)
    have hw1 : w64 ((i : Int) + 1) = ((i + 1 : Nat) : Int) := w64_s (n := ts.length) (by omega) (by omega)
    obtain ⟨hx1, hx2, hx3⟩ := hw _ (getD_memT (show i < ts.length by omega))
    refine ⟨⟨by omega, by omega⟩, hx1, ⟨hp, hx3, ?_, trivial⟩, by kernel_rfl, i + 1, [(16, 16), (17, 17), (18, 18)], by omega, by omega, rfl, ?_⟩
    · show (gCh p f (ts.take i)).length + (chS f (ts.getD i ([], 0)).1).length ≤ _
      omega
    · rw [hw1, hs]; rfl
  · have h1 := of_decide_eq_false h1
    have e : i = ts.length := by omega
    subst e
    rw [List.take_length] at hgl ⊢
    obtain ⟨c, hc⟩ := hg
    exact ⟨⟨by omega, fun x hx => by have := (hc.key x hx).2.1; omega, hc.words⟩, retN [464] rfl hK⟩
def c_changed : Ctr Tryz.prog := ⟨137, ent Tryz.func137 rfl rfl, [], sp_changed, good_changed, []⟩
@[go_sem] theorem c_changed_f : c_changed.f = 137 := rfl
@[go_sem] theorem c_changed_ms : c_changed.ms = [] := rfl
@[go_sem] theorem c_changed_sp : c_changed.spec = sp_changed := rfl
@[go_sem] theorem c_changed_fz : c_changed.fz = [] := rfl
attribute [go_sem] sp_changed
theorem gAll_rep (p : Int) (k : Int) : ∀ (ts : TermL) (l : MapL) (c : List Int → Int), GRep l c → (∀ x ∈ ts, smB x.1) → GRep (gAll p l k ts) (cF p c (ts.map fun y => (y.1, w64 (y.2 * k))))
  | [], l, c, h, _ => h
  | x :: ts, l, c, h, hw => gAll_rep p k ts _ _ (h.add p (hw x List.mem_cons_self) (w64 (x.2 * k))) (fun y hy => hw y (List.mem_cons_of_mem _ hy))
theorem gCh_rep (p : Int) (f : ChT) : ∀ (ts : TermL) (l : MapL) (c : List Int → Int), GRep l c → (∀ x ∈ ts, ∀ y ∈ chS f x.1, smB y.1) → GRep (ts.foldl (fun l x => gAll p l x.2 (chS f x.1)) l) (cF p c (ts.flatMap fun x => (chS f x.1).map fun y => (y.1, w64 (y.2 * x.2))))
  | [], l, c, h, _ => h
  | x :: ts, l, c, h, hw => by
    rw [List.foldl_cons, List.flatMap_cons, cF_app]
    exact gCh_rep p f ts _ _ (gAll_rep p x.2 _ _ _ h (hw x List.mem_cons_self)) (fun y hy => hw y (List.mem_cons_of_mem _ hy))
end Go.Proofs.YthfmlelodmcgkaaGreat.V
end
section
namespace Go.Proofs.YthfmlelodmcgkaaGreat.V
open Go
theorem one_gather {p : Int} (h2 : 2 ≤ p) (hp : p ≤ 1000) (u : List Int) : gAdd p [] u 1 = [(textB u, (u, 1))] := by
  have e : modI p (w64 (gAt [] u + 1)) = 1 := by
    rw [show gAt [] u = 0 from rfl, w64_id (by omega) (by omega), modI_e (by omega) hp]
    exact Int.emod_eq_of_lt (by omega) (by omega)
  rw [gAdd, e]; rfl
theorem one_sorted {p : Int} (h2 : 2 ≤ p) (hp : p ≤ 1000) (u : List Int) : sortT (nzT (gAdd p [] u 1)) = [(u, 1)] := by
  rw [one_gather h2 hp]
  have e : nzT [(textB u, (u, (1 : Int)))] = [(u, 1)] := rfl
  rw [e]
  have := sortT_perm [(u, (1 : Int))]
  exact List.perm_singleton.1 this
def sp_single : List Cv → List Obj' → Tree
  | [.one (.v (.int .i64 p)), .one (.ro (.int .i64) w), .one (.v (.int .i64 v))], [] => .need (p ≠ 0 ∧ w.length < 1099511627776) (.ret (.val (.agg [.v (.int .i64 p), .own 0])) [.drow 87 (.pr (.sl 2 (.int .i64)) (.int .i64)) (sortT (nzT (gAdd p [] w v)))])
  | _, _ => .fail
theorem gAdd_nil (p : Int) (w : List Int) (v : Int) : ∃ z, gAdd p [] w v = [(textB w, (w, z))] := ⟨_, rfl⟩
set_option maxHeartbeats 4000000 in
set_option maxRecDepth 100000 in
theorem good_single : Good Tryz.prog 139 sp_single := by
  refine good_ofF Tryz.func139 rfl _ rfl _ rfl (tab [c_newG, c_gAdd, c_gSum]) (fun X cs os0 K hok hos hK => ?_)
  clear hos; unfold sp_single at hK
  split at hK
  case h_2 => exact hK.elim
  rename_i p w v
  refine ⟨by simp, by simp, ?_⟩
  simp only [go_sem] at hK hok
  simp (maxSteps := 4000000) only [go_sem, Tryz.f139, ↓brB_t, ↓brB_f, Nat.reduceAdd, Int.reduceLE, Int.reduceLT, Int.reduceNeg, decide_true, decide_false, Bool.and_self, Nat.succ_eq_add_one, Int.toNat_natCast, Nat.beq_refl, Bool.and_true, Bool.true_and, Bool.false_or, Bool.or_true, List.all_cons, List.all_nil, Nat.reduceMul, Nat.add_zero, Nat.zero_add, List.length_nil, List.length_cons, dite_true, List.nil_append, Nat.reduceBEq, reduceDIte, reduceIte, reduceCtorEq, Bool.or_false, Bool.true_or, Bool.and_false, Bool.false_and, Bool.not_true, Bool.not_false, Option.isSome_some, Option.isSome_none, Option.getD_some, List.getElem?_cons_zero, List.getElem?_cons_succ, eq_self, and_self, List.take_succ_cons, List.take_zero, List.drop_succ_cons, List.drop_zero]
  obtain ⟨⟨hp, hw⟩, hK⟩ := hK
  clear hok
  obtain ⟨z, hz⟩ := gAdd_nil p w v
  rw [hz] at hK ⊢
  exact ⟨⟨hp, hw, by decide, trivial⟩, ⟨by show 1 ≤ 1000000; decide, fun x hx => by rw [List.mem_singleton.1 hx]; exact hw, by simp⟩, retN [256] rfl hK⟩
def c_single : Ctr Tryz.prog := ⟨139, ent Tryz.func139 rfl rfl, [], sp_single, good_single, []⟩
@[go_sem] theorem c_single_f : c_single.f = 139 := rfl
@[go_sem] theorem c_single_ms : c_single.ms = [] := rfl
@[go_sem] theorem c_single_sp : c_single.spec = sp_single := rfl
@[go_sem] theorem c_single_fz : c_single.fz = [] := rfl
attribute [go_sem] sp_single
def sp_ren1 : List Cv → List Obj' → Tree
  | [.one (.ro (.int .i64) w), .one (.elr (.pr (.int .i64) (.sl 87 (.pr (.sl 2 (.int .i64)) (.int .i64)))) [x] 0 0), .one (.pp [.sl 2 (.int .i64)] (.sl 2 (.int .i64)) f)], [] =>
    .need ((x : Int × TermL).1 ≠ 0 ∧ (f (w, ())).isSome = true ∧ ((f (w, ())).getD [] : List Int).length < 1099511627776) (.ret (.val (.agg [.v (.int .i64 (x : Int × TermL).1), .ro (.pr (.sl 2 (.int .i64)) (.int .i64)) (sortT (nzT (gAdd (x : Int × TermL).1 [] ((f (w, ())).getD []) 1)))])) [])
  | _, _ => .fail
set_option maxHeartbeats 4000000 in
set_option maxRecDepth 100000 in
theorem good_ren1 : Good Tryz.prog 138 sp_ren1 := by
  refine good_ofF Tryz.func138 rfl _ rfl _ rfl (tab [c_single]) (fun X cs os0 K hok hos hK => ?_)
  clear hos; unfold sp_ren1 at hK
  split at hK
  case h_2 => exact hK.elim
  rename_i w x f
  refine ⟨by simp, by simp, ?_⟩
  simp only [go_sem] at hK hok
  simp (maxSteps := 4000000) only [go_sem, Tryz.f138, ↓brB_t, ↓brB_f, Nat.reduceAdd, Int.reduceLE, Int.reduceLT, Int.reduceNeg, decide_true, decide_false, Bool.and_self, Nat.succ_eq_add_one, Int.toNat_natCast, Nat.beq_refl, Bool.and_true, Bool.true_and, Bool.false_or, Bool.or_true, List.all_cons, List.all_nil, Nat.reduceMul, Nat.add_zero, Nat.zero_add, List.length_nil, List.length_cons, dite_true, List.nil_append, Nat.reduceBEq, reduceDIte, reduceIte, reduceCtorEq, Bool.or_false, Bool.true_or, Bool.and_false, Bool.false_and, Bool.not_true, Bool.not_false, Option.isSome_some, Option.isSome_none, Option.getD_some, List.getElem?_cons_zero, List.getElem?_cons_succ, eq_self, and_self, List.take_succ_cons, List.take_zero, List.drop_succ_cons, List.drop_zero]
  obtain ⟨⟨hp, h1, h2⟩, hK⟩ := hK
  clear hok
  exact ⟨h1, ⟨hp, h2⟩, by kernel_rfl, retN [] rfl hK⟩
def renP (ys : HC [.d kSum, .p [.sl 2 (.int .i64)] (.sl 2 (.int .i64))]) (xs : HT [Kn.sl 2 (.int .i64)]) : Option (Int × TermL) :=
  match ys.2.1 xs with
  | some u => if (ys.1 : Int × TermL).1 ≠ 0 ∧ (u : List Int).length < 1099511627776 then some ((ys.1 : Int × TermL).1, sortT (nzT (gAdd (ys.1 : Int × TermL).1 [] u 1))) else none
  | none => none
def p_ren : PFn Tryz.prog := ⟨138, entB Tryz.func138 rfl rfl, [.d kSum, .p [.sl 2 (.int .i64)] (.sl 2 (.int .i64))], [.sl 2 (.int .i64)], kSum, renP, sp_ren1, good_ren1, fun ys xs y h K hK => by
  unfold renP at h
  cases hu : ys.2.1 xs with
  | none => rw [hu] at h; cases h
  | some u =>
    rw [hu] at h
    simp only at h
    split at h
    · rename_i hc
      injection h with h; subst h
      have hu : ys.2.1 (xs.1, ()) = some u := hu
      refine ⟨⟨hc.1, by rw [hu]; rfl, by rw [hu]; exact hc.2⟩, ?_⟩
      rw [hu]; exact hK
    · cases h⟩
@[go_sem] theorem p_ren_f : p_ren.f = 138 := rfl
@[go_sem] theorem p_ren_caps (args : List Rv) : (capsM p_ren.cks args fun ys => .ret (.val (.one (.pf p_ren.ks p_ren.r (p_ren.g ys))))) = capsM [.d kSum, .p [.sl 2 (.int .i64)] (.sl 2 (.int .i64))] args fun ys => .ret (.val (.one (.pf [.sl 2 (.int .i64)] kSum (renP ys)))) := rfl
def sp_renamed : List Cv → List Obj' → Tree
  | [.agg [.v (.int .i64 p), .ro (.pr (.sl 2 (.int .i64)) (.int .i64)) ts], .one (.pf [.sl 2 (.int .i64)] (.sl 2 (.int .i64)) f)], [] =>
    .need (p ≠ 0 ∧ (ts : TermL).length ≤ 200 ∧ (∀ x ∈ (ts : TermL), (renP ((p, ts), f, ()) (x.1, ())).isSome = true ∧ (chS (renP ((p, ts), f, ())) x.1).length ≤ 100 ∧ ∀ y ∈ chS (renP ((p, ts), f, ())) x.1, y.1.length < 1099511627776) ∧ ∃ c, GRep (gCh p (renP ((p, ts), f, ())) ts) c)
      (.ret (.val (.agg [.v (.int .i64 p), .own 0])) [.drow 87 (.pr (.sl 2 (.int .i64)) (.int .i64)) (sortT (nzT (gCh p (renP ((p, ts), f, ())) ts)))])
  | _, _ => .fail
set_option maxHeartbeats 4000000 in
set_option maxRecDepth 100000 in
theorem good_renamed : Good Tryz.prog 95 sp_renamed := by
  refine good_ofF Tryz.func95 rfl _ rfl _ rfl (tab [c_changed] [] [p_ren]) (fun X cs os0 K hok hos hK => ?_)
  clear hos; unfold sp_renamed at hK
  split at hK
  case h_2 => exact hK.elim
  rename_i p ts f
  refine ⟨by simp, by simp, ?_⟩
  simp only [go_sem] at hK hok
  simp (maxSteps := 4000000) only [go_sem, Tryz.f95, ↓brB_t, ↓brB_f, Nat.reduceAdd, Int.reduceLE, Int.reduceLT, Int.reduceNeg, decide_true, decide_false, Bool.and_self, Nat.succ_eq_add_one, Int.toNat_natCast, Nat.beq_refl, Bool.and_true, Bool.true_and, Bool.false_or, Bool.or_true, List.all_cons, List.all_nil, Nat.reduceMul, Nat.add_zero, Nat.zero_add, List.length_nil, List.length_cons, dite_true, List.nil_append, Nat.reduceBEq, reduceDIte, reduceIte, reduceCtorEq, Bool.or_false, Bool.true_or, Bool.and_false, Bool.false_and, Bool.not_true, Bool.not_false, Option.isSome_some, Option.isSome_none, Option.getD_some, List.getElem?_cons_zero, List.getElem?_cons_succ, eq_self, and_self, List.take_succ_cons, List.take_zero, List.drop_succ_cons, List.drop_zero]
  obtain ⟨h1, hK⟩ := hK
  clear hok
  exact ⟨h1, retN [128] rfl hK⟩
def c_renamed : Ctr Tryz.prog := ⟨95, ent Tryz.func95 rfl rfl, [], sp_renamed, good_renamed, []⟩
@[go_sem] theorem c_renamed_f : c_renamed.f = 95 := rfl
@[go_sem] theorem c_renamed_ms : c_renamed.ms = [] := rfl
@[go_sem] theorem c_renamed_sp : c_renamed.spec = sp_renamed := rfl
@[go_sem] theorem c_renamed_fz : c_renamed.fz = [] := rfl
attribute [go_sem] sp_renamed
def leaP (x : HT [Kn.sl 2 (.int .i64)]) : Option (List Int) := if (x.1 : List Int).length < 1099511627776 ∧ Go.Proofs.YthfmlelodmcgkaaGreat.K.normalL x.1 = x.1 then some (leastL x.1) else none
def p_least : PF0 Tryz.prog := ⟨96, entB Tryz.func96 rfl rfl, [.sl 2 (.int .i64)], .sl 2 (.int .i64), leaP, sp_least, good_leastI, fun xs y h K hK => by
  unfold leaP at h
  split at h
  · rename_i hc
    injection h with h; subst h
    exact ⟨hc, hK⟩
  · cases h⟩
@[go_sem] theorem p_least_f : p_least.f = 96 := rfl
@[go_sem] theorem p_least_v : Rv.val (.one (.pf p_least.ks p_least.r p_least.g)) = Rv.val (.one (.pf [.sl 2 (.int .i64)] (.sl 2 (.int .i64)) leaP)) := rfl
def leaT (ts : TermL) : TermL := ts.map fun x => (leastL x.1, x.2)
def cirR (p : Int) (ts : TermL) : TermL := jS p (leaT ts)
theorem leaT_len (ts : TermL) : (leaT ts).length = ts.length := List.length_map ..
theorem leaT_w {ts : TermL} (h : ∀ x ∈ ts, isW x.1 = true) : ∀ x ∈ leaT ts, isW x.1 = true := fun x hx => by
  obtain ⟨y, hy, rfl⟩ := List.mem_map.1 hx
  exact leastL_isW (h y hy)
theorem leaT_s {ts : TermL} {i : Nat} (h : i < ts.length) : leaT (ts.take (i + 1)) = leaT (ts.take i) ++ [(leastL (ts.getD i ([], 0)).1, (ts.getD i ([], 0)).2)] := by
  have e : ts.getD i ([], 0) = ts[i] := by rw [List.getD_eq_getElem?_getD, List.getElem?_eq_getElem h]; rfl
  rw [leaT, List.take_succ_eq_append_getElem h, List.map_append, e]; rfl
theorem cir_ch {p : Int} {ts : TermL} (h2 : 2 ≤ p) (hp : p ≤ 13) {w : List Int} (hw : isW w = true) : renP ((p, ts), leaP, ()) (w, ()) = some (p, [(leastL w, 1)]) := by
  have e : leaP (w, ()) = some (leastL w) := if_pos ⟨by have := isW_l12 hw; show w.length < _; omega, isW_normal hw⟩
  unfold renP
  show (match leaP (w, ()) with | some u => _ | none => none) = _
  rw [e]
  have hl := isW_l12 hw
  simp only
  rw [if_pos ⟨by show p ≠ 0; omega, by rw [leastL_len]; omega⟩, one_sorted h2 (by omega)]
theorem cir_rep {p : Int} {ts : TermL} (h2 : 2 ≤ p) (hp : p ≤ 13) (hw : ∀ x ∈ ts, isW x.1 = true) (hv : ∀ x ∈ ts, 0 ≤ x.2 ∧ x.2 ≤ 13) : GRep (gCh p (renP ((p, ts), leaP, ())) ts) (cF p (fun _ => 0) (leaT ts)) := by
  have key : ∀ x ∈ ts, chS (renP ((p, ts), leaP, ())) x.1 = [(leastL x.1, 1)] := fun x hx => by
    unfold chS; rw [cir_ch h2 hp (hw x hx)]; rfl
  have hg := gCh_rep p (renP ((p, ts), leaP, ())) ts [] _ GRep.nil (fun x hx y hy => by
    rw [key x hx] at hy
    rw [List.mem_singleton.1 hy]
    exact sm_of (leastL_isW (hw x hx)))
  have e : (ts.flatMap fun x => (chS (renP ((p, ts), leaP, ())) x.1).map fun y => (y.1, w64 (y.2 * x.2))) = leaT ts := by
    suffices h : ∀ us : TermL, (∀ x ∈ us, x ∈ ts) → (us.flatMap fun x => (chS (renP ((p, ts), leaP, ())) x.1).map fun y => (y.1, w64 (y.2 * x.2))) = leaT us from h ts fun _ h => h
    intro us
    induction us with
    | nil => intro _; rfl
    | cons x us ih =>
      intro h
      have hx := h x List.mem_cons_self
      have := hv x hx
      rw [List.flatMap_cons, ih fun y hy => h y (List.mem_cons_of_mem _ hy), key x hx]
      show (leastL x.1, w64 (1 * x.2)) :: leaT us = leaT (x :: us)
      rw [Int.one_mul, w64_id (by omega) (by omega)]; rfl
  rw [e] at hg
  exact hg
theorem cir_eq {p : Int} {ts : TermL} (h2 : 2 ≤ p) (hp : p ≤ 13) (hw : ∀ x ∈ ts, isW x.1 = true) (hv : ∀ x ∈ ts, 0 ≤ x.2 ∧ x.2 ≤ 13) : sortT (nzT (gCh p (renP ((p, ts), leaP, ())) ts)) = cirR p ts :=
  (cir_rep h2 hp hw hv).sum (jS_rep p _ fun x hx => sm_of (leaT_w hw x hx))
def okT (p : Int) (ts : TermL) : Prop := (2 ≤ p ∧ p ≤ 13) ∧ ts.length ≤ 200 ∧ ∀ x ∈ ts, isW x.1 = true ∧ 0 ≤ x.2 ∧ x.2 ≤ 13
def sp_circle : List Cv → List Obj' → Tree
  | [.agg [.v (.int .i64 p), .ro (.pr (.sl 2 (.int .i64)) (.int .i64)) ts]], [] => .need (okT p ts) (.ret (.val (.agg [.v (.int .i64 p), .own 0])) [.drow 87 (.pr (.sl 2 (.int .i64)) (.int .i64)) (cirR p ts)])
  | _, _ => .fail
set_option maxHeartbeats 4000000 in
set_option maxRecDepth 100000 in
theorem good_circle : Good Tryz.prog 55 sp_circle := by
  refine good_ofF Tryz.func55 rfl _ rfl _ rfl (tab [c_renamed] [p_least]) (fun X cs os0 K hok hos hK => ?_)
  clear hos; unfold sp_circle at hK
  split at hK
  case h_2 => exact hK.elim
  rename_i p ts
  refine ⟨by simp, by simp, ?_⟩
  simp only [go_sem] at hK hok
  simp (maxSteps := 4000000) only [go_sem, Tryz.f55, ↓brB_t, ↓brB_f, Nat.reduceAdd, Int.reduceLE, Int.reduceLT, Int.reduceNeg, decide_true, decide_false, Bool.and_self, Nat.succ_eq_add_one, Int.toNat_natCast, Nat.beq_refl, Bool.and_true, Bool.true_and, Bool.false_or, Bool.or_true, List.all_cons, List.all_nil, Nat.reduceMul, Nat.add_zero, Nat.zero_add, List.length_nil, List.length_cons, dite_true, List.nil_append, Nat.reduceBEq, reduceDIte, reduceIte, reduceCtorEq, Bool.or_false, Bool.true_or, Bool.and_false, Bool.false_and, Bool.not_true, Bool.not_false, Option.isSome_some, Option.isSome_none, Option.getD_some, List.getElem?_cons_zero, List.getElem?_cons_succ, eq_self, and_self, List.take_succ_cons, List.take_zero, List.drop_succ_cons, List.drop_zero]
  obtain ⟨⟨⟨h2, hp⟩, hl, hx⟩, hK⟩ := hK
  clear hok
  rw [← cir_eq h2 hp (fun x h => (hx x h).1) (fun x h => (hx x h).2)] at hK
  have hc := fun x (h : x ∈ ts) => cir_ch (ts := ts) h2 hp (hx x h).1
  have hs : ∀ x ∈ (ts : TermL), chS (renP ((p, ts), leaP, ())) x.1 = [(leastL x.1, 1)] := fun x h => by unfold chS; rw [hc x h]; rfl
  refine ⟨⟨by omega, hl, fun x h => ⟨by rw [hc x h]; rfl, by rw [hs x h]; exact Nat.le_of_ble_eq_true rfl, fun y hy => ?_⟩, _, cir_rep h2 hp (fun x h => (hx x h).1) (fun x h => (hx x h).2)⟩, retN [80] rfl hK⟩
  rw [hs x h] at hy
  rw [List.mem_singleton.1 hy]
  have := isW_l12 (leastL_isW (hx x h).1)
  show (leastL x.1).length < _
  omega
def c_circle : Ctr Tryz.prog := ⟨55, ent Tryz.func55 rfl rfl, [], sp_circle, good_circle, []⟩
@[go_sem] theorem c_circle_f : c_circle.f = 55 := rfl
@[go_sem] theorem c_circle_ms : c_circle.ms = [] := rfl
@[go_sem] theorem c_circle_sp : c_circle.spec = sp_circle := rfl
@[go_sem] theorem c_circle_fz : c_circle.fz = [] := rfl
attribute [go_sem] sp_circle
set_option maxHeartbeats 4000000 in
set_option maxRecDepth 100000 in
theorem good_circleS : Good Tryz.prog 49 sp_circle := by
  refine good_ofF Tryz.func49 rfl _ rfl _ rfl (tab [c_l03Empty, c_leastS, c_l03Put]) (fun X cs os0 K hok hos hK => ?_)
  clear hos; unfold sp_circle at hK
  split at hK
  case h_2 => exact hK.elim
  rename_i p ts
  refine ⟨by simp, by simp, ?_⟩
  simp only [go_sem] at hK hok
  simp (maxSteps := 4000000) only [go_sem, Tryz.f49, ↓brB_t, ↓brB_f, Nat.reduceAdd, Int.reduceLE, Int.reduceLT, Int.reduceNeg, decide_true, decide_false, Bool.and_self, Nat.succ_eq_add_one, Int.toNat_natCast, Nat.beq_refl, Bool.and_true, Bool.true_and, Bool.false_or, Bool.or_true, List.all_cons, List.all_nil, Nat.reduceMul, Nat.add_zero, Nat.zero_add, List.length_nil, List.length_cons, dite_true, List.nil_append, Nat.reduceBEq, reduceDIte, reduceIte, reduceCtorEq, Bool.or_false, Bool.true_or, Bool.and_false, Bool.false_and, Bool.not_true, Bool.not_false, Option.isSome_some, Option.isSome_none, Option.getD_some, List.getElem?_cons_zero, List.getElem?_cons_succ, eq_self, and_self, List.take_succ_cons, List.take_zero, List.drop_succ_cons, List.drop_zero]
  obtain ⟨⟨⟨h2, hp⟩, hl, hx⟩, hK⟩ := hK
  clear hok
  have hw : ∀ x ∈ ts, isW x.1 = true := fun x h => (hx x h).1
  refine loop_okF (T := tab [c_l03Empty, c_leastS, c_l03Put]) [1, 2, 3, 4] [(16, 32), (17, 48), (18, 64), (19, 128)] (fun i : Nat => ⟨31, [(1, .val (.one (.ptr 16 0))), (2, .val (.one (.ptr 17 0))), (3, .val (.one (.ptr 18 0))), (4, vi i)],
      [(16, .box tS' [.v (.int .i64 p), .ro kTerm ts]), (17, .box tS' [.v (.int .i64 0), .v (.slice none 0 0)]), (18, .box tS' [.v (.int .i64 p), .own 19]), (19, .drow tI kTerm (jS p (leaT (ts.take i))))]⟩)
    (fun i => i ≤ ts.length) (fun i => ts.length - i) 0 rfl rfl (Nat.zero_le _) (fun i hi => ?_)
  simp only [go_sem, ↓brB_t, ↓brB_f, Nat.reduceAdd, Int.reduceLE, Int.reduceLT, Int.reduceNeg, decide_true, decide_false, Bool.and_self, Nat.succ_eq_add_one, Int.toNat_natCast, Nat.beq_refl, Bool.and_true, Bool.true_and, Bool.false_or, Bool.or_true, List.all_cons, List.all_nil, Nat.reduceMul, Nat.add_zero, Nat.zero_add, List.length_nil, List.length_cons, dite_true, List.nil_append, Nat.reduceBEq, reduceDIte, reduceIte, reduceCtorEq, Bool.or_false, Bool.true_or, Bool.and_false, Bool.false_and, Bool.not_true, Bool.not_false, Option.isSome_some, Option.isSome_none, Option.getD_some, List.getElem?_cons_zero, List.getElem?_cons_succ, eq_self, and_self, List.take_succ_cons, List.take_zero, List.drop_succ_cons, List.drop_zero]
  have hjl := jS_len p (leaT (ts.take i))
  rw [leaT_len, List.length_take] at hjl
  have hjw := jS_q (p := p) (q := fun u => isW u = true) (ts := leaT (ts.take i)) (leaT_w fun x h => hw x (List.mem_of_mem_take h))
  refine brB_intro (fun h3 => ?_) (fun h3 => ?_)
  · have h3 := of_decide_eq_true h3
    have hs := leaT_s (ts := ts) (i := i) (by omega)
    have hw1 : w64 ((i : Int) + 1) = ((i + 1 : Nat) : Int) := w64_s (n := ts.length) (by omega) (by omega)
    have hm := hw _ (getD_memT (show i < ts.length by omega))
    have hml := isW_l12 hm
    have hll := isW_l12 (leastL_isW hm)
    rw [hw1]
    refine ⟨⟨by omega, by omega⟩, ⟨by omega, isW_normal hm⟩, ⟨by omega, by omega⟩, ⟨by omega, by omega, by omega, fun x hx => by have := isW_l12 (hjw x hx); omega⟩, by kernel_rfl, i + 1, [(16, 16), (17, 17), (18, 18), (19, 480)], by omega, by omega, rfl, ?_⟩
    rw [hs, jS_s]; rfl
  · have h3 := of_decide_eq_false h3
    have e : i = ts.length := by omega
    rw [e, List.take_length]
    exact retN [19] rfl hK
def c_circleS : Ctr Tryz.prog := ⟨49, ent Tryz.func49 rfl rfl, [], sp_circle, good_circleS, []⟩
@[go_sem] theorem c_circleS_f : c_circleS.f = 49 := rfl
@[go_sem] theorem c_circleS_ms : c_circleS.ms = [] := rfl
@[go_sem] theorem c_circleS_sp : c_circleS.spec = sp_circle := rfl
@[go_sem] theorem c_circleS_fz : c_circleS.fz = [] := rfl
attribute [go_sem] sp_circle
end Go.Proofs.YthfmlelodmcgkaaGreat.V
end
section
namespace Go.Proofs.YthfmlelodmcgkaaGreat.V
open Go
theorem inB_tt {x a b : Int} (h : inB x a b = true) : a ≤ x ∧ x ≤ b := by simpa [inB] using h
end Go.Proofs.YthfmlelodmcgkaaGreat.V
end
section
namespace Go.Proofs.YthfmlelodmcgkaaGreat.V
open Go
def okOrd (p n low : Int) : Bool := primeB p && inB n low 4
def sp_order : List Cv → List Obj' → Tree
  | [.one (.v (.int .i64 p)), .one (.v (.int .i64 n)), .one (.v (.int .i64 low))], [] => .ret (vb (okOrd p n low)) []
  | _, _ => .fail
def sp_code : List Cv → List Obj' → Tree
  | [.one (.v (.int .i64 p)), .one (.v (.int .i64 n)), .one (.v (.int .i64 low))], [] => .ret (vi (if okOrd p n low then 0 else 2)) []
  | _, _ => .fail
set_option maxHeartbeats 4000000 in
set_option maxRecDepth 100000 in
theorem good_order : Good Tryz.prog 66 sp_order := by
  refine good_ofF Tryz.func66 rfl _ rfl _ rfl (tab [c_isPrime, c_in]) (fun X cs os0 K hok hos hK => ?_)
  clear hos; unfold sp_order at hK
  split at hK
  case h_2 => exact hK.elim
  rename_i p n low
  refine ⟨by simp, by simp, ?_⟩
  simp only [go_sem] at hK hok
  simp (maxSteps := 4000000) only [go_sem, Tryz.f66, ↓brB_t, ↓brB_f, Nat.reduceAdd, Int.reduceLE, Int.reduceLT, Int.reduceNeg, decide_true, decide_false, Bool.and_self, Nat.succ_eq_add_one, Int.toNat_natCast, Nat.beq_refl, Bool.and_true, Bool.true_and, Bool.false_or, Bool.or_true, List.all_cons, List.all_nil, Nat.reduceMul, Nat.add_zero, Nat.zero_add, List.length_nil, List.length_cons, dite_true, List.nil_append, Nat.reduceBEq, reduceDIte, reduceIte, reduceCtorEq, Bool.or_false, Bool.true_or, Bool.and_false, Bool.false_and, Bool.not_true, Bool.not_false, Option.isSome_some, Option.isSome_none, Option.getD_some, List.getElem?_cons_zero, List.getElem?_cons_succ, eq_self, and_self, List.take_succ_cons, List.take_zero, List.drop_succ_cons, List.drop_zero]
  clear hok
  refine brB_intro (fun h1 => ?_) (fun h1 => ?_)
  · rw [okOrd, h1, Bool.true_and] at hK; exact ret0 hK
  · rw [okOrd, h1, Bool.false_and] at hK; exact ret0 hK
def c_order : Ctr Tryz.prog := ⟨66, ent Tryz.func66 rfl rfl, [], sp_order, good_order, []⟩
@[go_sem] theorem c_order_f : c_order.f = 66 := rfl
@[go_sem] theorem c_order_ms : c_order.ms = [] := rfl
@[go_sem] theorem c_order_sp : c_order.spec = sp_order := rfl
@[go_sem] theorem c_order_fz : c_order.fz = [] := rfl
attribute [go_sem] sp_order
set_option maxHeartbeats 4000000 in
set_option maxRecDepth 100000 in
theorem good_code : Good Tryz.prog 62 sp_code := by
  refine good_ofF Tryz.func62 rfl _ rfl _ rfl (tab [c_l03Prime, c_l01In]) (fun X cs os0 K hok hos hK => ?_)
  clear hos; unfold sp_code at hK
  split at hK
  case h_2 => exact hK.elim
  rename_i p n low
  refine ⟨by simp, by simp, ?_⟩
  simp only [go_sem] at hK hok
  simp (maxSteps := 4000000) only [go_sem, Tryz.f62, ↓brB_t, ↓brB_f, Nat.reduceAdd, Int.reduceLE, Int.reduceLT, Int.reduceNeg, decide_true, decide_false, Bool.and_self, Nat.succ_eq_add_one, Int.toNat_natCast, Nat.beq_refl, Bool.and_true, Bool.true_and, Bool.false_or, Bool.or_true, List.all_cons, List.all_nil, Nat.reduceMul, Nat.add_zero, Nat.zero_add, List.length_nil, List.length_cons, dite_true, List.nil_append, Nat.reduceBEq, reduceDIte, reduceIte, reduceCtorEq, Bool.or_false, Bool.true_or, Bool.and_false, Bool.false_and, Bool.not_true, Bool.not_false, Option.isSome_some, Option.isSome_none, Option.getD_some, List.getElem?_cons_zero, List.getElem?_cons_succ, eq_self, and_self, List.take_succ_cons, List.take_zero, List.drop_succ_cons, List.drop_zero]
  clear hok
  refine brB_intro (fun h1 => ?_) (fun h1 => brB_intro (fun h2 => ?_) (fun h2 => ?_))
  · have e : okOrd p n low = false := by rw [okOrd, snb h1]; rfl
    rw [e, if_neg (by decide)] at hK; exact ret0 hK
  · have e : okOrd p n low = false := by rw [okOrd, snb' h1, snb h2]; rfl
    rw [e, if_neg (by decide)] at hK; exact ret0 hK
  · have e : okOrd p n low = true := by rw [okOrd, snb' h1, snb' h2]; rfl
    rw [e, if_pos rfl] at hK; exact ret0 hK
def c_code : Ctr Tryz.prog := ⟨62, ent Tryz.func62 rfl rfl, [], sp_code, good_code, []⟩
@[go_sem] theorem c_code_f : c_code.f = 62 := rfl
@[go_sem] theorem c_code_ms : c_code.ms = [] := rfl
@[go_sem] theorem c_code_sp : c_code.spec = sp_code := rfl
@[go_sem] theorem c_code_fz : c_code.fz = [] := rfl
attribute [go_sem] sp_code
theorem okOrd_n {p n low : Int} (h : okOrd p n low = true) : (2 ≤ p ∧ p ≤ 13) ∧ low ≤ n ∧ n ≤ 4 := by
  obtain ⟨h1, h2⟩ := Bool.and_eq_true_iff.1 h
  refine ⟨?_, inB_tt h2⟩
  simp [primeB] at h1
  omega
end Go.Proofs.YthfmlelodmcgkaaGreat.V
end
section
namespace Go.Proofs.YthfmlelodmcgkaaGreat.V
open Go
theorem atT_mem : ∀ (ts : TermL) (w : List Int), atT ts w = 0 ∨ ∃ x ∈ ts, atT ts w = x.2
  | [], _ => .inl rfl
  | x :: r, w => by
    rw [atT]
    split
    · exact .inr ⟨x, List.mem_cons_self, rfl⟩
    · rcases atT_mem r w with h | ⟨y, h1, h2⟩
      · exact .inl h
      · exact .inr ⟨y, List.mem_cons_of_mem _ h1, h2⟩
theorem cir_vals {p : Int} {ts : TermL} (h : okT p ts) : ∀ x ∈ cirR p ts, 0 ≤ x.2 ∧ x.2 < p := fun x hx => by
  obtain ⟨⟨h2, hp⟩, hl, hw⟩ := h
  have hs := jS_rep p (leaT ts) fun x hx => sm_of (leaT_w (fun x h => (hw x h).1) x hx)
  have := ((hs.mem x).1 hx).2.1
  rw [this, cF_val (by omega) (by omega) (leaT ts) _ (fun y hy => by
    obtain ⟨z, hz, rfl⟩ := List.mem_map.1 hy
    have := (hw z hz).2
    show -1000000 ≤ z.2 ∧ z.2 ≤ 1000000
    omega) (fun _ => ⟨Int.le_refl 0, by omega⟩)]
  exact ⟨Int.emod_nonneg _ (by omega), Int.emod_lt_of_pos _ (by omega)⟩
theorem row_vals {p : Int} {ts : TermL} (h : okT p ts) (ds : LL) : ∀ x ∈ rowD (cirR p ts) ds, 0 ≤ x ∧ x < p := fun x hx => by
  obtain ⟨d, hd, rfl⟩ := List.mem_map.1 hx
  rcases atT_mem (cirR p ts) d with e | ⟨y, h1, h2⟩
  · rw [e]
    have := h.1
    omega
  · rw [h2]; exact cir_vals h y h1
end Go.Proofs.YthfmlelodmcgkaaGreat.V
end
section
namespace Go.Proofs.YthfmlelodmcgkaaGreat.K
open Go.RowKit Go.Lib Go.Proofs.YthfmlelodmcgkaaGreatW.PrintWords Go.Proofs.YthfmlelodmcgkaaGreatW.PrintLast Go.Proofs.YthfmlelodmcgkaaGreatW.PrintMore
structure Blk (W : World) (g cap : Nat) (cur : Array Value) : Prop where
  mk ::
  blk : W.heap[g]? = some (.cells cur 2 (0, 0))
  size : cur.size = cap
  max : cap ≤ maxLen
abbrev ev (l : List Int) : List Value := encs (Value.int .i64) l
theorem ev_length (l : List Int) : (ev l).length = l.length := by simp [ev, encs]
theorem ev_one (l : List Int) : ∀ v ∈ ev l, v.oneCell' = true := by
  intro v hv
  simp only [ev, encs, List.mem_map] at hv
  obtain ⟨x, _, rfl⟩ := hv
  rfl
theorem blk_of {W : World} {B : Nat} {ok : Nat → Prop} {g n cap : Nat} {l : List Int} (h : RI W B ok (.slice (some ⟨g, 0, none⟩) n cap) l) : ∃ cur, Blk W g cap cur ∧ B ≤ g ∧ n = l.length ∧ l.length ≤ cap ∧ cur.toList.take l.length = ev l := by
  obtain ⟨h1, h2⟩ := Kd.own_of_R h
  rcases h2 with ⟨e, _⟩ | ⟨g', cap', cur, e, hb, hh, hn, hm, hs, ht⟩
  · cases e
  · injection e with e1 e2 e3
    injection e1 with e1
    injection e1 with e1
    subst e1
    subst e3
    exact ⟨cur, ⟨hh, by rw [hs, Nat.mul_one], hm⟩, hb, e2, hn, by have := ht; rw [Nat.mul_one] at this; exact this⟩
theorem blk_row {W : World} {B : Nat} {ok : Nat → Prop} {g cap : Nat} {cur : Array Value} {l : List Int} (h : Blk W g cap cur) (hB : B ≤ g) (hok : ok g) (hl : l.length ≤ cap) (ht : cur.toList.take l.length = ev l) : RI W B ok (.slice (some ⟨g, 0, none⟩) l.length cap) l :=
  Kd.R_of_own ⟨by rw [ev_length, Nat.mul_one], .inr ⟨g, cap, cur, rfl, hB, h.blk, hl, h.max, by rw [h.size, Nat.mul_one], by rw [Nat.mul_one]; exact ht⟩⟩ (fun k hk => by
    simp only [Value.ownBlock, Option.some.injEq] at hk
    subst hk
    exact hok)
theorem Blk.cell {W : World} {g cap : Nat} {cur : Array Value} (h : Blk W g cap cur) (j : Nat) : W.cell? ⟨g, j, none⟩ = cur[j]? := blk_cell h.blk j
theorem Blk.some {W : World} {g cap : Nat} {cur : Array Value} (h : Blk W g cap cur) (j : Nat) (hj : j < cap) : (W.cell? ⟨g, j, none⟩).isSome = true := by
  rw [h.cell]
  have := h.size
  simp [this, hj]
theorem Blk.puts {W : World} {g cap : Nat} {cur : Array Value} (h : Blk W g cap cur) (o : Nat) (vs : List Value) (hl : o + vs.length ≤ cap) :
    ∃ cur', Blk (W.setCells g o vs) g cap cur' ∧ cur'.toList = cur.toList.take o ++ vs ++ cur.toList.drop (o + vs.length) := by
  obtain ⟨cur', h1, h2, h3⟩ := setCells_row vs o W cur h.blk (by rw [h.size]; exact hl)
  exact ⟨cur', ⟨h1, by rw [h2, h.size], h.max⟩, h3⟩
theorem puts_grown (g : Nat) (o : Nat) (vs : List Value) (W : World) : W.grownBy (W.setCells g o vs) (some g) := by
  obtain ⟨s1, s2, s3, s4⟩ := setCells_same g vs o W
  exact ⟨s1, s2, s3, by rw [s4]; exact Nat.le_refl _, fun k _ hk => setCells_far _ _ k (fun he => hk (by rw [he]))⟩
theorem apart_run (w : World) (gv gb kv kb : Nat) (vo bo m vc lb cb : Nat) (curv curb : Array Value) (hv : Blk w gv kv curv) (hb : Blk w gb kb curb) (hne : gv ≠ gb) (hkb : kb ≠ 0) :
    (callFunc 201 #[.slice (some ⟨gv, vo, none⟩) m vc, .slice (some ⟨gb, bo, none⟩) lb cb]).run Tryz.prog w = .ok (.value (.bool false)) w := by
  rw [run_callFunc_extern Tryz.func201 (by kernel_rfl) (by kernel_rfl) (by kernel_rfl) (e := Extern.SlicesOverlaps.overlaps #[26, 26] #[4]) (by kernel_rfl),
    Lib.run_overlaps_apart w 26 4 2 Tryz.underlying26 1 (fun w => by kernel_rfl) ⟨gv, vo, none⟩ ⟨gb, bo, none⟩ m vc lb cb hne 2 2 curv.size curb.size (by simp [World.shape?, hv.blk]) (by simp [World.shape?, hb.blk]) (by rw [hb.size]; exact hkb) (blk_frozen hv.blk _) (blk_frozen hv.blk _)]
  rfl
set_option maxHeartbeats 4000000 in
set_option maxRecDepth 100000 in
theorem insert_room (w : World) (g gv cap vc i n m kv : Nat) (cs vs : List Value) (cur curv : Array Value) (hg : Blk w g cap cur) (hv : Blk w gv kv curv) (hne : gv ≠ g) (hcl : cs.length = n) (hvl : vs.length = m) (h1c : ∀ v ∈ cs, v.oneCell' = true) (h1v : ∀ v ∈ vs, v.oneCell' = true)
    (hcs : cur.toList.take n = cs) (hvs : curv.toList.take m = vs) (hi : i < n) (hm : 0 < m) (hroom : n + m ≤ cap) :
    Calls Tryz.prog 185 #[.slice (some ⟨g, 0, none⟩) n cap, .int .i64 i, .slice (some ⟨gv, 0, none⟩) m vc] w fun e w' => e = .returned (.slice (some ⟨g, 0, none⟩) (n + m) cap) ∧ w' = (w.drew.setCells g (i + m) (cs.drop i)).setCells g i vs := by
  have hc63 : cap ≤ 9223372036854775807 := hg.max
  have hcell : ∀ j v, cs[j]? = some v → w.cell? ⟨g, 0 + j, none⟩ = some v := fun j v hj => by
    rw [Nat.zero_add, hg.cell, ← Array.getElem?_toList]
    rw [← hcs, List.getElem?_take] at hj
    split at hj
    · exact hj
    · cases hj
  have hvcell : ∀ j v, vs[j]? = some v → w.cell? ⟨gv, 0 + j, none⟩ = some v := fun j v hj => by
    rw [Nat.zero_add, hv.cell, ← Array.getElem?_toList]
    rw [← hvs, List.getElem?_take] at hj
    split at hj
    · exact hj
    · cases hj
  have hsp : ∀ j, j < n + m → (w.cell? ⟨g, 0 + j, none⟩).isSome = true := fun j hj => by rw [Nat.zero_add]; exact hg.some j (by omega)
  have hfz : ∀ j, j < n + m → w.frozen? ⟨g, 0 + j, none⟩ = false := fun j _ => blk_frozen hg.blk _
  have hsz : (Tryz.prog.info? 2).map (·.size) = some 1 := by kernel_rfl
  have hov : ∀ lb cb, (callFunc 201 #[.slice (some ⟨gv, 0, none⟩) m vc, .slice (some ⟨g, i + m, none⟩) lb cb]).run Tryz.prog w = .ok (.value (.bool false)) w := fun lb cb => apart_run w gv g kv cap 0 (i + m) m vc lb cb curv cur hv hg hne (by omega)
  have hdl : (cs.drop i).length = n - i := by rw [List.length_drop, hcl]
  have hcp1 : ∀ ty dc sc, (Builtin.copy_ #[26, 26] ty #[.slice (some ⟨g, i + m, none⟩) (n + m - (i + m)) dc, .slice (some ⟨g, i, none⟩) (n + m - i) sc]).run Tryz.prog w.drew = .ok (goInt (cs.drop i).length) (w.drew.setCells g (i + m) (cs.drop i)) := fun ty dc sc =>
    run_copy_cells w.drew _ _ ty 2 g (i + m) (n + m - (i + m)) dc ⟨g, i, none⟩ (n + m - i) sc (cs.drop i) Tryz.underlying26 hsz (by rw [hdl]; simp only [Nat.min_def]; split <;> omega)
      (fun j v hj => by
        rw [Addr.add_lit]
        have := hcell (i + j) v (by rwa [List.getElem?_drop] at hj)
        rwa [Nat.zero_add] at this)
      (fun j hj => by have := hsp (i + m + j) (by omega); rwa [Nat.zero_add] at this) (fun j hj => blk_frozen hg.blk _) (fun v hv => h1c v (List.mem_of_mem_drop hv))
  obtain ⟨W1, hW1⟩ : ∃ W1, W1 = w.drew.setCells g (i + m) (cs.drop i) := ⟨_, rfl⟩
  have hsp1 : ∀ k, k < n + m → (W1.cell? ⟨g, k, none⟩).isSome = true := fun k hk => by
    rw [hW1]
    have hq : ∀ j, j < n + m → (w.drew.cell? ⟨g, j, none⟩).isSome = true := fun j hj => by have := hsp j hj; rwa [Nat.zero_add] at this
    exact isSome_setCells g _ _ _ (fun j hj => hq _ (by omega)) _ (hq k hk)
  have hcp2 : ∀ (W : World), (∀ x, W.cell? x = W1.cell? x) → (∀ x, W.frozen? x = W1.frozen? x) → ∀ ty dc, (Builtin.copy_ #[26, 26] ty #[.slice (some ⟨g, i, none⟩) (n + m - i) dc, .slice (some ⟨gv, 0, none⟩) m vc]).run Tryz.prog W = .ok (goInt vs.length) (W.setCells g i vs) := fun W hWc hWf ty dc =>
    run_copy_cells W _ _ ty 2 g i (n + m - i) dc ⟨gv, 0, none⟩ m vc vs Tryz.underlying26 hsz (by rw [hvl]; simp only [Nat.min_def]; split <;> omega)
      (fun j v hj => by
        rw [Addr.add_lit, hWc, hW1, World.cell?_setCells_out g _ _ _ _ (fun h _ => absurd h hne)]
        exact hvcell j v hj)
      (fun j hj => by rw [hWc]; exact hsp1 _ (by omega)) (fun j hj => by rw [hWf, hW1, World.frozen?_setCells]; exact blk_frozen hg.blk _) h1v
  rw [← hW1] at hcp1
  have hw1 : IntKind.i64.wrap ((i : Int) + (m : Int)) = (i : Int) + (m : Int) := by rw [IntKind.wrap_i64]; omega
  have hb1 : (0 : Int) ≤ (i : Int) + (m : Int) := by omega
  have hin : i ≤ n := by omega
  have htn : ((i : Int) + (m : Int)).toNat = i + m := by omega
  have hb2 : ¬ (cap = i + m) := by omega
  have hb3 : (i : Int) ≤ (n : Int) + (m : Int) := by omega
  have hb4 : ¬ (cap = i) := by omega
  have hz1 : ¬ ((m : Int) = 0) := by omega
  have hz2 : ¬ ((i : Int) = (n : Int)) := by omega
  clear hcell hvcell hsp hfz hsp1 hdl hcs hvs hcl hvl
  go_enter Tryz.func185, Tryz.ntmps185
  go_wp2_with (simp only [hov])
  go_region_law (refine step_copy_runI rfl _ _ 26 26 rfl _ _ (by simp [Act.eval, Act.put]) (by simp [Act.eval, Act.put]) (hcp1 _ _ _) ?_)
  go_wp2_with (at_builtin; refine wpList_copy_runI _ rfl _ _ 26 26 rfl _ _ rfl rfl (hcp2 _ (fun _ => rfl) (fun _ => rfl) _ _) ?_)
  go_ret
  first | exact ⟨rfl, rfl⟩ | exact ⟨rfl, by rw [hW1]⟩
set_option maxHeartbeats 4000000 in
set_option maxRecDepth 100000 in
theorem insert_grow (w : World) (g gv cap vc i n m kv : Nat) (cs vs : List Value) (cur curv : Array Value) (hg : Blk w g cap cur) (hv : Blk w gv kv curv) (hne : gv ≠ g) (hcl : cs.length = n) (hvl : vs.length = m) (h1c : ∀ v ∈ cs, v.oneCell' = true) (h1v : ∀ v ∈ vs, v.oneCell' = true)
    (hcs : cur.toList.take n = cs) (hvs : curv.toList.take m = vs) (hi : i < n) (hm : 0 < m) (hnc : n ≤ cap) (hroom : cap < n + m) (hbig : (n + m) * 8 ≤ 140737488355328) :
    Calls Tryz.prog 185 #[.slice (some ⟨g, 0, none⟩) n cap, .int .i64 i, .slice (some ⟨gv, 0, none⟩) m vc] w fun e w' => ∃ G : Nat, n + m ≤ G ∧ G ≤ maxLen ∧ e = .returned (.slice (some ⟨w.heap.size, 0, none⟩) (n + m) G) ∧
      ∃ ROW : Array Value, ROW.size = G ∧ ROW.toList.take i = cs.take i ∧ w' = (((w.alloc (.cells ROW 2)).drew.setCells w.heap.size i vs).drew).setCells w.heap.size (i + m) (cs.drop i) := by
  have hcell : ∀ j v, cs[j]? = some v → w.cell? ⟨g, j, none⟩ = some v := fun j v hj => by
    rw [hg.cell, ← Array.getElem?_toList]
    rw [← hcs, List.getElem?_take] at hj
    split at hj
    · exact hj
    · cases hj
  have hvcell : ∀ j v, vs[j]? = some v → w.cell? ⟨gv, j, none⟩ = some v := fun j v hj => by
    rw [hv.cell, ← Array.getElem?_toList]
    rw [← hvs, List.getElem?_take] at hj
    split at hj
    · exact hj
    · cases hj
  obtain ⟨i0, hi0, hz0, hzs, hzb⟩ := info_parts info2
  have hsz : (Tryz.prog.info? 2).map (·.size) = some 1 := by kernel_rfl
  have hbw : g < w.heap.size := blk_lt hg.blk
  have hvw : gv < w.heap.size := blk_lt hv.blk
  have hkk : (n : Int) + (m : Int) - (i : Int) = ((n + m - i : Nat) : Int) := by omega
  have hik : i + (n + m - i) = n + m := by omega
  have hold : (Builtin.firstCells i0.size i (.slice (some ⟨g, 0, none⟩) i cap)).run Tryz.prog w.drew = .ok (cs.take i).toArray w.drew := by
    rw [hzs]
    exact run_firstCells_some w.drew 1 i ⟨g, 0, none⟩ i cap (cs.take i) (by rw [List.length_take]; omega) (fun j v hj => by
      rw [Addr.add_lit, Nat.zero_add]
      rw [List.getElem?_take] at hj
      split at hj
      · exact hcell j v hj
      · cases hj)
  obtain ⟨G, hG⟩ : ∃ G, G = grownCap w (n + m) cap 2 := ⟨_, rfl⟩
  have hGn : n + m ≤ G := by rw [hG]; exact grownCap_ge w _ _ _
  have hGm : G ≤ maxLen := by rw [hG]; exact grownCap_le_maxLen w (n + m) cap 2 (by unfold maxLen; omega)
  obtain ⟨ROW, hROW⟩ : ∃ ROW : Array Value, ROW = (cs.take i).toArray ++ Builtin.zeroCells (Value.int .i64 0).cells (n + m - i) ++ Builtin.zeroCells (Value.int .i64 0).cells (G - (n + m)) := ⟨_, rfl⟩
  have hrz : ∀ ty, (Builtin.append_ #[26, 3] ty #[.slice (some ⟨g, 0, none⟩) i cap, .int .i64 ((n : Int) + (m : Int) - (i : Int))]).run Tryz.prog w = .ok (.slice (some ⟨w.heap.size, 0, none⟩) (n + m) G) (w.drew.alloc (.cells ROW 2)) := fun ty => by
    have h := Lib.run_append_grow_zeros w 26 3 ty 2 i0 _ .i64 .i64 Tryz.underlying26 Tryz.underlying3 hi0 hz0 (some ⟨g, 0, none⟩) i cap (cs.take i) hold (n + m - i) (by omega) (by omega) (by omega) (by omega) (by rw [hzb]; omega) (by rw [hzb, hik]; exact growslice_fits hroom hbig)
    rw [hik] at h
    rw [hkk, hROW, hG]
    exact h
  have hRl : ROW.size = G := by
    rw [hROW]
    simp [Builtin.zeroCells, Value.cells]
    omega
  have hRt : ROW.toList.take i = cs.take i := by
    rw [hROW]
    have : (cs.take i).length = i := by rw [List.length_take]; omega
    simp [List.take_append, this]
  obtain ⟨W1, hW1⟩ : ∃ W1, W1 = w.drew.alloc (.cells ROW 2) := ⟨_, rfl⟩
  rw [← hW1] at hrz
  have hN : ∀ j, j < n + m → (W1.cell? ⟨w.heap.size, j, none⟩).isSome = true := fun j hj => by
    rw [hW1, World.cell?_alloc_at (w := w.drew) ROW _ w.heap.size j rfl, Array.getElem?_eq_getElem (by omega)]; rfl
  have hNf : ∀ j, W1.frozen? ⟨w.heap.size, j, none⟩ = false := fun j => by rw [hW1]; exact World.frozen?_alloc_at (w := w.drew) ROW _ w.heap.size j rfl
  have hOb : ∀ j v, w.cell? ⟨g, j, none⟩ = some v → W1.cell? ⟨g, j, none⟩ = some v := fun j v h => by rw [hW1, World.cell?_alloc_past (w := w.drew) _ g j hbw]; exact h
  have hOv : ∀ j v, w.cell? ⟨gv, j, none⟩ = some v → W1.cell? ⟨gv, j, none⟩ = some v := fun j v h => by rw [hW1, World.cell?_alloc_past (w := w.drew) _ gv j hvw]; exact h
  have hcpA : ∀ (W : World), (∀ x, W.cell? x = W1.cell? x) → (∀ x, W.frozen? x = W1.frozen? x) → ∀ ty dc, (Builtin.copy_ #[26, 26] ty #[.slice (some ⟨w.heap.size, i, none⟩) (n + m - i) dc, .slice (some ⟨gv, 0, none⟩) m vc]).run Tryz.prog W = .ok (goInt vs.length) (W.setCells w.heap.size i vs) := fun W hWc hWf ty dc =>
    run_copy_cells W _ _ ty 2 w.heap.size i (n + m - i) dc ⟨gv, 0, none⟩ m vc vs Tryz.underlying26 hsz (by rw [hvl]; simp only [Nat.min_def]; split <;> omega)
      (fun j v hj => by rw [Addr.add_lit, hWc, Nat.zero_add]; exact hOv _ v (hvcell j v hj))
      (fun j hj => by rw [hWc]; exact hN _ (by omega)) (fun j hj => by rw [hWf]; exact hNf _) h1v
  have hG63 : G ≤ 9223372036854775807 := hGm
  have hGi : ¬ (G = i) := by omega
  have hGim : ¬ (G = i + m) := by omega
  have hci : ¬ (cap = i) := by omega
  have hbN : g ≠ w.heap.size := by omega
  have hdl : (cs.drop i).length = n - i := by rw [List.length_drop, hcl]
  have hcpB : ∀ (W : World), (∀ x, W.cell? x = (W1.setCells w.heap.size i vs).cell? x) → (∀ x, W.frozen? x = (W1.setCells w.heap.size i vs).frozen? x) → ∀ ty dc sc, (Builtin.copy_ #[26, 26] ty #[.slice (some ⟨w.heap.size, i + m, none⟩) (n + m - (i + m)) dc, .slice (some ⟨g, i, none⟩) (n - i) sc]).run Tryz.prog W = .ok (goInt (cs.drop i).length) (W.setCells w.heap.size (i + m) (cs.drop i)) := fun W hWc hWf ty dc sc =>
    run_copy_cells W _ _ ty 2 w.heap.size (i + m) (n + m - (i + m)) dc ⟨g, i, none⟩ (n - i) sc (cs.drop i) Tryz.underlying26 hsz (by rw [hdl]; simp only [Nat.min_def]; split <;> omega)
      (fun j v hj => by
        rw [Addr.add_lit, hWc, World.cell?_setCells_out _ _ _ _ _ (fun h _ => absurd h hbN)]
        exact hOb _ v (hcell (i + j) v (by rwa [List.getElem?_drop] at hj)))
      (fun j hj => by rw [hWc]; exact isSome_setCells _ _ _ _ (fun t ht => hN _ (by omega)) _ (hN _ (by omega)))
      (fun j hj => by rw [hWf, World.frozen?_setCells]; exact hNf _) (fun v hv => h1c v (List.mem_of_mem_drop hv))
  subst hW1
  have hE1 : ∀ x, ((w.alloc (.cells ROW 2)).drew).cell? x = (w.drew.alloc (.cells ROW 2)).cell? x := fun x => rfl
  have hE2 : ∀ x, ((w.alloc (.cells ROW 2)).drew).frozen? x = (w.drew.alloc (.cells ROW 2)).frozen? x := fun x => rfl
  have hF1 : ∀ x, (((w.alloc (.cells ROW 2)).drew.setCells w.heap.size i vs).drew).cell? x = ((w.drew.alloc (.cells ROW 2)).setCells w.heap.size i vs).cell? x := fun x => rfl
  have hF2 : ∀ x, (((w.alloc (.cells ROW 2)).drew.setCells w.heap.size i vs).drew).frozen? x = ((w.drew.alloc (.cells ROW 2)).setCells w.heap.size i vs).frozen? x := fun x => rfl
  have hw1 : IntKind.i64.wrap ((i : Int) + (m : Int)) = (i : Int) + (m : Int) := by rw [IntKind.wrap_i64]; omega
  have hb1 : (0 : Int) ≤ (i : Int) + (m : Int) := by omega
  have hin : i ≤ n := by omega
  have htn : ((i : Int) + (m : Int)).toNat = i + m := by omega
  have hb3 : (i : Int) ≤ (n : Int) := by omega
  have hz1 : ¬ ((m : Int) = 0) := by omega
  have hz2 : ¬ ((i : Int) = (n : Int)) := by omega
  have hz3 : (cap : Int) < (n : Int) + (m : Int) := by omega
  have HGm := Aside0.mk (And.intro hGn (And.intro hGm (And.intro hRl hRt)))
  clear hkk hik hold hROW hG hRl hRt hcell hvcell hcs hvs hGm hdl hcl hvl
  go_enter Tryz.func185, Tryz.ntmps185
  go_wp2_with (first
    | (at_builtin; refine Lib.wpList_append_run _ rfl _ _ _ _ rfl _ _ rfl rfl _ _ (hrz _) ?_)
    | (at_builtin; refine wpList_copy_runI _ rfl _ _ 26 26 rfl _ _ rfl rfl (hcpA _ hE1 hE2 _ _) ?_)
    | (at_builtin; refine wpList_copy_runI _ rfl _ _ 26 26 rfl _ _ rfl rfl (hcpB _ (fun _ => rfl) (fun _ => rfl) _ _ _) ?_))
  go_region_law (refine step_copy_runI rfl _ _ 26 26 rfl (.slice (some ⟨w.heap.size, i + m, none⟩) (n + m - (i + m)) (G - (i + m))) (.slice (some ⟨g, i, none⟩) (n - i) (cap - i)) (by simp [Act.eval, Act.put]) (by simp [Act.eval, Act.put]) (hcpB _ hF1 hF2 3 (G - (i + m)) (cap - i)) ?_)
  go_wp2
  go_ret
  exact ⟨G, HGm.out.1, HGm.out.2.1, rfl, ROW, HGm.out.2.2.1, HGm.out.2.2.2, rfl⟩
set_option maxHeartbeats 1000000 in
set_option maxRecDepth 100000 in
theorem insert_end (w : World) (B : Nat) (A : Option Addr) (cap : Nat) (l vs : List Int) (Av : Option Addr) (vc : Nat) (hO : RI w B (fun _ => True) (.slice A l.length cap) l) (hV : CI w Av vs.length vs) (hm : 0 < vs.length) (hl : l.length + vs.length < 1099511627776) (hB : B ≤ w.heap.size) :
    Calls Tryz.prog 185 #[.slice A l.length cap, .int .i64 l.length, .slice Av vs.length vc] w fun e w' => ∃ v : Value, e = .returned v ∧ RI w' B (fun _ => True) v (l ++ vs) ∧ w.grownBy w' (.slice A l.length cap : Value).ownBlock := by
  have HO := Aside0.mk hO
  have HV := Aside0.mk hV
  have hnc := (Kd.R_reads' hO).2.1
  have hz1 : ((vs.length : Int) == 0) = false := by rw [beq_eq_false_iff_ne]; omega
  have HL := Aside0.mk hl
  clear hO hV
  have HBB := Aside0.mk (Below.refl B w)
  cases A with
  | none =>
    have h0 : l = [] := by
      rcases Nat.eq_zero_or_pos l.length with h0 | h0
      · exact List.eq_nil_of_length_eq_zero h0
      · obtain ⟨ad, h, _⟩ := (Kd.R_reads' HO.out).2.2.2.2 h0
        cases h
    subst h0
    go_enter Tryz.func185, Tryz.ntmps185
    go_wp2_with (((with_reducible refine gate_builtin (b := .append) (xs := #[.tmp 23, .tmp 24]) rfl ?_); at_builtin; refine Kd.R_append_rows (Kd.int .i64) (w0 := w) B rfl (.tmp 23) (.tmp 24) 26 2 (.int .i64 0) 8 rfl Tryz.underlying26 info2 rfl (by decide) (by omega) _ [] vs _ _ _ (fun _ => True) (fun _ => False) rfl rfl HO.out HV.out (fun _ _ h => h) (fun _ h => h.elim) (fun _ _ => trivial) HBB.out hB (by have := HL.out; simp at this ⊢; omega) ?_; intro v3 w3 ho hb hg hat; have HO3 := Aside0.mk ho; have HG3 := Aside0.mk hg; clear ho hb hg hat))
    go_ret
    exact ⟨_, rfl, HO3.out, HG3.out⟩
  | some ad =>
    obtain ⟨n, hn⟩ : ∃ n, n = l.length := ⟨_, rfl⟩
    by_cases hcn : cap = l.length
    all_goals
      go_enter Tryz.func185, Tryz.ntmps185
      go_wp2_with (((with_reducible refine gate_builtin (b := .append) (xs := #[.tmp 23, .tmp 24]) rfl ?_); at_builtin; refine Kd.R_append_rows (Kd.int .i64) (w0 := w) B rfl (.tmp 23) (.tmp 24) 26 2 (.int .i64 0) 8 rfl Tryz.underlying26 info2 rfl (by decide) (by omega) _ l vs _ _ _ (fun _ => True) (fun _ => False) rfl rfl HO.out HV.out (fun _ _ h => h) (fun _ h => h.elim) (fun _ _ => trivial) HBB.out hB (by have := HL.out; omega) ?_; intro v3 w3 ho hb hg hat; have HO3 := Aside0.mk ho; have HG3 := Aside0.mk hg; clear ho hb hg hat))
      go_ret
      exact ⟨_, rfl, HO3.out, HG3.out⟩
end Go.Proofs.YthfmlelodmcgkaaGreat.K
namespace Go.Proofs.YthfmlelodmcgkaaGreat.K
open Go.RowKit Go.Lib Go.Proofs.YthfmlelodmcgkaaGreatW.PrintWords Go.Proofs.YthfmlelodmcgkaaGreatW.PrintLast Go.Proofs.YthfmlelodmcgkaaGreatW.PrintMore
def insL (l vs : List Int) (i : Nat) : List Int := l.take i ++ vs ++ l.drop i
theorem insL_length (l vs : List Int) (i : Nat) : (insL l vs i).length = l.length + vs.length := by
  unfold insL
  rw [List.length_append, List.length_append, List.length_take, List.length_drop]
  omega
theorem ev_ins (l vs : List Int) (i : Nat) : ev (insL l vs i) = (ev l).take i ++ ev vs ++ (ev l).drop i := by simp [insL, ev, encs, List.map_take, List.map_drop]
theorem splice_room (cur cs vs : List Value) (n m i : Nat) (hcs : cur.take n = cs) (hcl : cs.length = n) (hvl : vs.length = m) (hi : i < n) (hl : n + m ≤ cur.length) :
    ((cur.take (i + m) ++ cs.drop i ++ cur.drop (i + m + (cs.drop i).length)).take i ++ vs ++ (cur.take (i + m) ++ cs.drop i ++ cur.drop (i + m + (cs.drop i).length)).drop (i + vs.length)).take (n + m) = cs.take i ++ vs ++ cs.drop i := by
  have h1 : (cur.take (i + m) ++ cs.drop i ++ cur.drop (i + m + (cs.drop i).length)).take i = cs.take i := by
    rw [List.append_assoc, List.take_append_of_le_length (by rw [List.length_take]; omega), List.take_take, Nat.min_eq_left (by omega), ← hcs, List.take_take, Nat.min_eq_left (by omega)]
  have h2 : (cur.take (i + m) ++ cs.drop i ++ cur.drop (i + m + (cs.drop i).length)).drop (i + vs.length) = cs.drop i ++ cur.drop (i + m + (cs.drop i).length) := by
    rw [hvl, List.append_assoc, List.drop_append_of_le_length (by rw [List.length_take]; omega), List.drop_of_length_le (by rw [List.length_take]; omega), List.nil_append]
  rw [h1, h2, ← List.append_assoc]
  exact List.take_left' (by rw [List.length_append, List.length_append, List.length_take, List.length_drop]; omega)
theorem splice_grow (row cs vs : List Value) (n m i : Nat) (hrow : row.take i = cs.take i) (hcl : cs.length = n) (hvl : vs.length = m) (hi : i < n) (hl : n + m ≤ row.length) :
    ((row.take i ++ vs ++ row.drop (i + vs.length)).take (i + m) ++ cs.drop i ++ (row.take i ++ vs ++ row.drop (i + vs.length)).drop (i + m + (cs.drop i).length)).take (n + m) = cs.take i ++ vs ++ cs.drop i := by
  have h1 : (row.take i ++ vs ++ row.drop (i + vs.length)).take (i + m) = cs.take i ++ vs := by
    rw [List.take_append_of_le_length (by rw [List.length_append, List.length_take]; omega), List.take_of_length_le (by rw [List.length_append, List.length_take]; omega), hrow]
  rw [h1]
  exact List.take_left' (by rw [List.length_append, List.length_append, List.length_take, List.length_drop]; omega)
theorem grown_drew (W : World) (r : Option Nat) : W.grownBy W.drew r := grown_of_below (below_drew1 (Below.refl _ _)) r
theorem grown_alloc (W : World) (o : Obj) (r : Option Nat) : W.grownBy (W.alloc o) r := grown_of_below (below_alloc (Below.refl _ _) _) r
theorem c_insert (w : World) (B : Nat) (A Av : Option Addr) (cap vc : Nat) (l vs : List Int) (i : Nat) (hO : RI w B (fun _ => True) (.slice A l.length cap) l) (hV : ∃ b ok, RI w b ok (.slice Av vs.length vc) vs) (hne : ∀ k, (.slice Av vs.length vc : Value).ownBlock = some k → some k ≠ (.slice A l.length cap : Value).ownBlock)
    (hi : i ≤ l.length) (hm : 0 < vs.length) (hl : l.length + vs.length < 1099511627776) (hB : B ≤ w.heap.size) :
    Calls Tryz.prog 185 #[.slice A l.length cap, .int .i64 i, .slice Av vs.length vc] w fun e w' => ∃ v : Value, e = .returned v ∧ RI w' B (fun _ => True) v (insL l vs i) ∧ w.grownBy w' (.slice A l.length cap : Value).ownBlock := by
  obtain ⟨bv, okv, hV⟩ := hV
  by_cases he : i = l.length
  · subst he
    refine (insert_end w B A cap l vs Av vc hO (Kd.R_reads' hV).2.2 hm hl hB).mono ?_
    rintro e w' ⟨v, rfl, h1, h2⟩
    refine ⟨v, rfl, ?_, h2⟩
    unfold insL
    rw [List.take_length, List.drop_length, List.append_nil]
    exact h1
  · have hi2 : i < l.length := by omega
    obtain ⟨g, cap', e1, hbg, hlg, _⟩ := Kd.R_form hO (by omega)
    injection e1 with ea _ ec
    subst ea ec
    obtain ⟨gv, vc', e2, hbv, hlv, _⟩ := Kd.R_form hV hm
    injection e2 with ea2 _ ec2
    subst ea2 ec2
    obtain ⟨cur, hg, _, _, hnc, hcs⟩ := blk_of hO
    obtain ⟨curv, hv, _, _, _, hvs⟩ := blk_of hV
    have hgg : gv ≠ g := fun e => hne gv rfl (by rw [e]; rfl)
    have hmax := hg.max
    by_cases hroom : l.length + vs.length ≤ cap
    · refine (insert_room w g gv cap vc i l.length vs.length vc (ev l) (ev vs) cur curv hg hv hgg (ev_length l) (ev_length vs) (ev_one l) (ev_one vs) hcs hvs hi2 hm hroom).mono ?_
      rintro e w' ⟨rfl, rfl⟩
      have hd : Blk w.drew g cap cur := ⟨blk_drew hg.blk, hg.size, hg.max⟩
      have hdl : ((ev l).drop i).length = l.length - i := by rw [List.length_drop, ev_length]
      obtain ⟨cur1, k1, t1⟩ := hd.puts (i + vs.length) ((ev l).drop i) (by rw [hdl]; omega)
      obtain ⟨cur2, k2, t2⟩ := k1.puts i (ev vs) (by rw [ev_length]; omega)
      refine ⟨_, rfl, ?_, (grown_drew w _).trans ((puts_grown g _ _ _).trans (puts_grown g _ _ _))⟩
      have hrow := blk_row (B := B) (ok := fun _ => True) (l := insL l vs i) k2 hbg trivial (by rw [insL_length]; exact hroom) (by
        rw [t2, t1, insL_length, ev_ins]
        have hsz := hg.size
        exact splice_room cur.toList (ev l) (ev vs) l.length vs.length i hcs (ev_length l) (ev_length vs) hi2 (by have e : cur.toList.length = cur.size := Array.length_toList; omega))
      rw [insL_length] at hrow
      exact hrow
    · refine (insert_grow w g gv cap vc i l.length vs.length vc (ev l) (ev vs) cur curv hg hv hgg (ev_length l) (ev_length vs) (ev_one l) (ev_one vs) hcs hvs hi2 hm hnc (by omega) (by omega)).mono ?_
      rintro e w' ⟨G, hG1, hG2, rfl, ROW, hR1, hR2, rfl⟩
      have hd : Blk (w.alloc (.cells ROW 2)).drew w.heap.size G ROW := ⟨blk_drew (blk_new w _), hR1, hG2⟩
      have hdl : ((ev l).drop i).length = l.length - i := by rw [List.length_drop, ev_length]
      obtain ⟨cur1, k1, t1⟩ := hd.puts i (ev vs) (by rw [ev_length]; omega)
      have k1d : Blk ((w.alloc (.cells ROW 2)).drew.setCells w.heap.size i (ev vs)).drew w.heap.size G cur1 := ⟨blk_drew k1.blk, k1.size, k1.max⟩
      obtain ⟨cur2, k2, t2⟩ := k1d.puts (i + vs.length) ((ev l).drop i) (by rw [hdl]; omega)
      have hbel : Below w.heap.size w ((((w.alloc (.cells ROW 2)).drew.setCells w.heap.size i (ev vs)).drew).setCells w.heap.size (i + vs.length) ((ev l).drop i)) := by
        have a1 : Below w.heap.size w (w.alloc (.cells ROW 2)).drew := below_drew1 (below_alloc (Below.refl _ _) _)
        have a2 := a1.grown (puts_grown w.heap.size i (ev vs) _) a1.size (fun k hk => by injection hk with hk; omega)
        have a3 := below_drew1 a2
        exact a3.grown (puts_grown w.heap.size (i + vs.length) ((ev l).drop i) _) a3.size (fun k hk => by injection hk with hk; omega)
      refine ⟨_, rfl, ?_, grown_of_below hbel _⟩
      have hrow := blk_row (B := B) (ok := fun _ => True) (l := insL l vs i) k2 hB trivial (by rw [insL_length]; exact hG1) (by
        rw [t2, t1, insL_length, ev_ins]
        exact splice_grow ROW.toList (ev l) (ev vs) l.length vs.length i hR2 (ev_length l) (ev_length vs) hi2 (by have e : ROW.toList.length = ROW.size := Array.length_toList; omega))
      rw [insL_length] at hrow
      exact hrow
set_option maxHeartbeats 1000000 in
set_option maxRecDepth 100000 in
theorem c_inserted (A0 A2 : Option Addr) (c0 c2 : Nat) (l vs : List Int) (i : Nat) (w : World) (hr0 : CI w A0 l.length l) (hc0 : l.length ≤ c0) (hV : ∃ b ok, RI w b ok (.slice A2 vs.length c2) vs) (hi : i ≤ l.length) (hm : 0 < vs.length) (hl : l.length + vs.length < 1099511627776) :
    Calls Tryz.prog 167 #[.slice A0 l.length c0, .int .i64 i, .slice A2 vs.length c2] w fun e w' => ∃ v : Value, e = .returned v ∧ RI w' w.heap.size (fun _ => True) v (insL l vs i) ∧ Below w.heap.size w w' := by
  have HR := Aside0.mk hr0
  have HC := Aside0.mk hc0
  have HX := Aside0.mk (show slices_Clone_int64_int64.f l = some l by unfold slices_Clone_int64_int64.f; rw [if_pos (by omega)])
  have HI := Aside0.mk (And.intro hi (And.intro hm hl))
  obtain ⟨bv, okv, hV⟩ := hV
  have HV := Aside0.mk hV
  clear hr0 hc0 hV hl hm hi
  go_enter Tryz.func167, Tryz.ntmps167
  go_wp2_with (first
    | (go_at_call 142; refine (slices_Clone_int64_int64.calls A0 c0 l l _ HR.out HC.out HX.out).mono ?_; rintro e w1 ⟨v1, rfl, ho, hb⟩; have HO := Aside0.mk ho; have HB := Aside0.mk hb; clear ho hb; obtain ⟨Ao, co, eo⟩ := Kd.R_slice HO.out; subst eo)
    | (go_at_call 185; refine (c_insert w1 w.heap.size Ao A2 co c2 l vs i HO.out ⟨bv, okv, Kd.R_below HV.out HB.out⟩ (fun k hk e => by have h1 := Kd.R_lt HV.out k hk; rcases Kd.R_base2 HO.out with e2 | ⟨k2, e2, h2⟩ <;> rw [e2] at e <;> simp at e; omega) HI.out.1 HI.out.2.1 HI.out.2.2 HB.out.size).mono ?_; rintro e w2 ⟨v2, rfl, ho, hg⟩; have HO2 := Aside0.mk ho; have HB2 := Aside0.mk (HB.out.grown hg HB.out.size (fun k hk => by rcases Kd.R_base2 HO.out with e2 | ⟨k2, e2, h2⟩ <;> rw [e2] at hk <;> simp at hk; omega)); clear ho hg))
  go_ret
  exact ⟨_, rfl, HO2.out, HB2.out⟩
def impl_inserted.f (l0 : List Int) (a1 : Int) (l2 : List Int) : Option (List Int) := if 0 ≤ a1 ∧ a1 ≤ l0.length ∧ 0 < l2.length ∧ l0.length + l2.length < 1099511627776 then some (insL l0 l2 a1.toNat) else none
theorem impl_inserted.calls (A0 : Option Addr) (c0 : Nat) (l0 : List Int) (a1 : Int) (A2 : Option Addr) (c2 : Nat) (l2 : List Int) (r : List Int) (w : World) (hr0 : Kd.C (Kd.int .i64) w A0 l0.length l0) (hc0 : l0.length ≤ c0) (hr2 : Kd.C (Kd.int .i64) w A2 l2.length l2) (hc2 : l2.length ≤ c2) (hx2 : ∃ b ok, Kd.R (Kd.int .i64) 2 w b ok (.slice A2 l2.length c2) l2) (h : impl_inserted.f l0 a1 l2 = some r) :
    Calls Tryz.prog 167 #[.slice A0 l0.length c0, .int .i64 a1, .slice A2 l2.length c2] w fun e w' => ∃ v0_ : Value, e = .returned (v0_) ∧ Kd.R (Kd.int .i64) 2 w' w.heap.size (fun _ => True) v0_ r ∧ Below w.heap.size w w' := by
  unfold impl_inserted.f at h
  split at h
  case isFalse => cases h
  rename_i hh
  obtain rfl := Option.some.inj h
  obtain ⟨h0, h1, h2, h3⟩ := hh
  obtain ⟨i, rfl⟩ : ∃ i : Nat, a1 = i := ⟨a1.toNat, by omega⟩
  rw [Int.toNat_natCast]
  exact c_inserted A0 A2 c0 c2 l0 l2 i w hr0 hc0 hx2 (by omega) h2 h3
end Go.Proofs.YthfmlelodmcgkaaGreat.K
end
section
namespace Go.Proofs.YthfmlelodmcgkaaGreat.L
open Go Go.RowKit Go.Proofs.YthfmlelodmcgkaaGreatW.PrintWords Go.Proofs.YthfmlelodmcgkaaGreatW.PrintLast Go.Proofs.YthfmlelodmcgkaaGreatW.PrintMore Go.Proofs.YthfmlelodmcgkaaGreat.K
theorem ins_twice (w : List Int) (x : Int) (p q : Nat) (hpq : p ≤ q) (hq : q ≤ w.length) : insL (insL w [x] q) [x] p = w.take p ++ [x] ++ (w.take q).drop p ++ [x] ++ w.drop q := by
  unfold insL
  have hl : (w.take q).length = q := by rw [List.length_take]; omega
  have h1 : (w.take q ++ [x] ++ w.drop q).take p = w.take p := by
    rw [List.append_assoc, List.take_append_of_le_length (by omega), List.take_take, Nat.min_eq_left hpq]
  have h2 : (w.take q ++ [x] ++ w.drop q).drop p = (w.take q).drop p ++ [x] ++ w.drop q := by
    rw [List.append_assoc, List.drop_append_of_le_length (by omega), List.append_assoc]
  rw [h1, h2]
  simp [List.append_assoc]
end Go.Proofs.YthfmlelodmcgkaaGreat.L
namespace Go.Proofs.YthfmlelodmcgkaaGreat.V
open Go
open Go.RowKit Go.Proofs.YthfmlelodmcgkaaGreatW.PrintWords Go.Proofs.YthfmlelodmcgkaaGreatW.PrintLast Go.Proofs.YthfmlelodmcgkaaGreatW.PrintMore
theorem insL_len {w m : List Int} {i : Nat} (h : i ≤ w.length) : (Go.Proofs.YthfmlelodmcgkaaGreat.K.insL w m i).length = w.length + m.length := by
  unfold Go.Proofs.YthfmlelodmcgkaaGreat.K.insL
  rw [List.length_append, List.length_append, List.length_take, List.length_drop]; omega
def sp_inserted : List Cv → List Obj' → Tree
  | [.one (.ro (.int .i64) l), .one (.v (.int .i64 i)), .one (.own 0)], [.row 2 (.int .i64) vs] => .need (0 ≤ i ∧ i ≤ l.length ∧ 0 < vs.length ∧ l.length + vs.length < 1099511627776) (.ret (ow 1) [rwi vs, rwi (K.insL l vs i.toNat)])
  | _, _ => .fail
theorem insL_mem {l vs : List Int} {i : Nat} {x : Int} (h : x ∈ K.insL l vs i) : x ∈ l ∨ x ∈ vs := by
  unfold K.insL at h
  rcases List.mem_append.1 h with h | h
  · rcases List.mem_append.1 h with h | h
    · exact .inl (List.mem_of_mem_take h)
    · exact .inr h
  · exact .inl (List.mem_of_mem_drop h)
theorem good_inserted : Good Tryz.prog 167 sp_inserted := by
  intro E0 cs os0 vs Kc hF hD h16 hO hdis hnof ha hK
  have hI := Inv.enter hF hD h16 hO hdis hnof
  have hok := okCs_of ha
  unfold sp_inserted at hK
  split at hK
  case h_2 => exact hK.elim
  rename_i l i ns
  obtain ⟨u1, u2, u3, rfl, hu1, hu2, hu3⟩ := three_args ha
  obtain ⟨a1, c1, rfl, hc1, hr1⟩ := read_of hu1.1
  obtain ⟨⟨rfl, _⟩, _⟩ := hu2
  obtain ⟨⟨hD0, rfl⟩, hone⟩ := hu3
  obtain ⟨⟨h0, h1, h2, h3⟩, hK⟩ := hK
  obtain ⟨⟨xs, k1, k2, k3, k4⟩, _⟩ := hO 0 (by simp)
  have hRI := row_to k1 k2
  obtain ⟨A2, c2, e2⟩ : ∃ A c, E0.σ 0 = .slice A ns.length c := by
    obtain ⟨ad, c, e, _⟩ := own_cells k1
    exact ⟨ad, c, e⟩
  simp only [okCs, okA, okK] at hok
  obtain ⟨m, rfl⟩ : ∃ m : Nat, i = m := ⟨i.toNat, by omega⟩
  rw [Int.toNat_natCast] at hK
  rw [e2] at hRI
  have hcall := K.c_inserted a1 A2 c1 c2 l ns m E0.w hr1 hc1 ⟨0, _, hRI⟩ (by omega) h2 h3
  rw [← e2] at hcall
  refine hcall.mono ?_
  rintro e w' ⟨v, rfl, hR, hb⟩
  obtain ⟨g1, g2⟩ := hI.world (w' := w') (row := none) ⟨hb.os, hb.tape, hb.output, hb.size, fun k hk _ => hb.block k hk⟩ (fun b h => by cases h)
  have hns : ∀ x ∈ ns, okI .i64 x := okReps_of k2
  have hrr : ∀ x ∈ K.insL l ns m, okI .i64 x := fun x hx => (insL_mem hx).elim (hok.1.2 x) (hns x)
  obtain ⟨ys, q1, q2, q3, q4, q5⟩ := row_of hR hrr E0.F
  obtain ⟨E', m1, m2, m3, m4, m5, _⟩ := g1.lay 1 rfl (fun h => by have := (hD 1).1 h; simp at this) v (fun b => blkOf v = some b) (fun _ => undef) (.row 2 (.int .i64) (K.insL l ns m)) (fun b hb' => by
    have := (q4 b hb').1
    exact ⟨fun h => by have := hF b h; omega, .inl this, fun j o hj hl hφ => by
      have := hI.lt j o hj hl b hφ
      omega⟩) (fun E' hle hw' => ⟨ys, by rw [hw']; exact q1, q2.imp (fun _ _ h => Rep.flat rfl h), q3, fun _ => Iff.rfl⟩)
  exact ⟨_, _, _, E', rfl, hK, by simp, m1, m3.congr (fun j => by
    simp only [numb]
    by_cases e0 : 0 = j
    · subst e0; rfl
    · by_cases e1 : 1 = j
      · subst e1; rfl
      · simp only [lk_ne _ _ e0, lk_ne _ _ e1]), ⟨⟨m4, m5.symm⟩, q5⟩⟩
def c_inserted : Ctr Tryz.prog := ⟨167, ent Tryz.func167 rfl rfl, [false, false, true], sp_inserted, good_inserted, []⟩
@[go_sem] theorem c_inserted_f : c_inserted.f = 167 := rfl
@[go_sem] theorem c_inserted_ms : c_inserted.ms = [false, false, true] := rfl
@[go_sem] theorem c_inserted_sp : c_inserted.spec = sp_inserted := rfl
@[go_sem] theorem c_inserted_fz : c_inserted.fz = [] := rfl
attribute [go_sem] sp_inserted
end Go.Proofs.YthfmlelodmcgkaaGreat.V
end
section
namespace Go.Proofs.YthfmlelodmcgkaaGreat.V
open Go
inductive Rch (r : Nat → Nat → Bool) (n i : Nat) : Nat → Prop
  | base : Rch r n i i
  | step {a b : Nat} : Rch r n i a → b < n → r a b = true → Rch r n i b
section
variable {r : Nat → Nat → Bool} {n i : Nat}
theorem Rch.trans {a b : Nat} (h : Rch r n i a) (k : Rch r n a b) : Rch r n i b := by
  induction k with
  | base => exact h
  | step _ hb hr ih => exact ih.step hb hr
theorem Rch.lt {a : Nat} (hi : i < n) (h : Rch r n i a) : a < n := by
  cases h with
  | base => exact hi
  | step _ hb _ => exact hb
theorem Rch.symm {a : Nat} (hs : ∀ a b, a < n → b < n → r a b = r b a) (hi : i < n) (h : Rch r n i a) : Rch r n a i := by
  induction h with
  | base => exact .base
  | step h1 hb hr ih =>
    have ha := h1.lt hi
    exact (Rch.step .base ha (by rw [hs _ _ hb ha]; exact hr)).trans ih
end
section
variable {r : Nat → Nat → Bool} {n : Nat}
structure Fnd (r : Nat → Nat → Bool) (n i : Nat) (pt : List Nat) : Prop where
  nodup : pt.Nodup
  own : i ∈ pt
  all : ∀ a ∈ pt, Rch r n i a
theorem Fnd.one (i : Nat) : Fnd r n i [i] := ⟨by simp, by simp, fun a ha => by rw [List.mem_singleton.1 ha]; exact .base⟩
theorem Fnd.add {i a b : Nat} {pt : List Nat} (h : Fnd r n i pt) (ha : a ∈ pt) (hb : b < n) (hr : r a b = true) (hn : b ∉ pt) : Fnd r n i (pt ++ [b]) := by
  refine ⟨?_, List.mem_append_left _ h.own, fun c hc => ?_⟩
  · rw [List.nodup_append]
    refine ⟨h.nodup, by simp, fun x hx y hy => ?_⟩
    rw [List.mem_singleton.1 hy]
    rintro rfl
    exact hn hx
  · rcases List.mem_append.1 hc with hc | hc
    · exact h.all c hc
    · rw [List.mem_singleton.1 hc]
      exact (h.all a ha).step hb hr
theorem nodup_le : ∀ (n : Nat) (pt : List Nat), pt.Nodup → (∀ a ∈ pt, a < n) → pt.length ≤ n := by
  intro n pt h1 h2
  have h3 : pt ⊆ List.range n := fun a ha => List.mem_range.2 (h2 a ha)
  have := List.Nodup.length_le_of_subset h1 h3
  simpa using this
theorem Fnd.lt {i : Nat} {pt : List Nat} (h : Fnd r n i pt) (hi : i < n) : ∀ a ∈ pt, a < n := fun a ha => (h.all a ha).lt hi
theorem Fnd.len {i : Nat} {pt : List Nat} (h : Fnd r n i pt) (hi : i < n) : pt.length ≤ n := nodup_le n pt h.nodup (h.lt hi)
theorem Fnd.done {i : Nat} {pt : List Nat} (h : Fnd r n i pt) (hc : ∀ a ∈ pt, ∀ b, b < n → r a b = true → b ∈ pt) (k : Nat) : k ∈ pt ↔ Rch r n i k := by
  refine ⟨h.all k, fun hk => ?_⟩
  induction hk with
  | base => exact h.own
  | step _ hb hr ih => exact hc _ ih _ hb hr
end
end Go.Proofs.YthfmlelodmcgkaaGreat.V
end
section
namespace Go.Proofs.YthfmlelodmcgkaaGreat.V
open Go
def inS (a b c : Int) : Bool := decide (a < c) && decide (c < b)
def crB (w : List Int) (i k : Int) : Bool := decide (i ≠ k) && (inS (pl1 w i) (pl2 w i) (pl1 w k) != inS (pl1 w i) (pl2 w i) (pl2 w k))
def sp_cross : List Cv → List Obj' → Tree
  | [.one (.ro (.int .i64) w), .one (.v (.int .i64 i)), .one (.v (.int .i64 k))], [] => .need (w.length < 1099511627776 ∧ (w : List Int).count i = 2 ∧ (w : List Int).count k = 2) (.ret (vb (crB w i k)) [])
  | _, _ => .fail
set_option maxHeartbeats 4000000 in
set_option maxRecDepth 100000 in
theorem good_cross : Good Tryz.prog 186 sp_cross := by
  refine good_ofF Tryz.func186 rfl _ rfl _ rfl (tab [c_places]) (fun X cs os0 K hok hos hK => ?_)
  clear hos; unfold sp_cross at hK
  split at hK
  case h_2 => exact hK.elim
  rename_i w i k
  refine ⟨by simp, by simp, ?_⟩
  simp only [go_sem] at hK hok
  simp (maxSteps := 4000000) only [go_sem, Tryz.f186, ↓brB_t, ↓brB_f, Nat.reduceAdd, Int.reduceLE, Int.reduceLT, Int.reduceNeg, decide_true, decide_false, Bool.and_self, Nat.succ_eq_add_one, Int.toNat_natCast, Nat.beq_refl, Bool.and_true, Bool.true_and, Bool.false_or, Bool.or_true, List.all_cons, List.all_nil, Nat.reduceMul, Nat.add_zero, Nat.zero_add, List.length_nil, List.length_cons, dite_true, List.nil_append, Nat.reduceBEq, reduceDIte, reduceIte, reduceCtorEq, Bool.or_false, Bool.true_or, Bool.and_false, Bool.false_and, Bool.not_true, Bool.not_false, Option.isSome_some, Option.isSome_none, Option.getD_some, List.getElem?_cons_zero, List.getElem?_cons_succ, eq_self, and_self, List.take_succ_cons, List.take_zero, List.drop_succ_cons, List.drop_zero]
  obtain ⟨⟨h1, h2, h3⟩, hK⟩ := hK
  clear hok
  refine ⟨⟨h1, h2⟩, ⟨h1, h3⟩, brB_intro (fun a => brB_intro (fun b => brB_intro (fun c => ret0 ?_) (fun c => ret0 ?_)) (fun b => brB_intro (fun c => ret0 ?_) (fun c => ret0 ?_))) (fun a => ret0 ?_)⟩
  · have e : crB w i k = !decide (decide (pl1 w k < pl2 w i) = decide (pl2 w k < pl2 w i)) := by
      rw [crB, inS, inS, b, c, decide_eq_true (by simpa using a)]
      cases decide (pl1 w k < pl2 w i) <;> cases decide (pl2 w k < pl2 w i) <;> rfl
    rw [e] at hK; exact hK
  · have e : crB w i k = !decide (decide (pl1 w k < pl2 w i) = false) := by
      rw [crB, inS, inS, b, c, decide_eq_true (by simpa using a)]
      cases decide (pl1 w k < pl2 w i) <;> rfl
    rw [e] at hK; exact hK
  · have e : crB w i k = !decide (false = decide (pl2 w k < pl2 w i)) := by
      rw [crB, inS, inS, b, c, decide_eq_true (by simpa using a)]
      cases decide (pl2 w k < pl2 w i) <;> rfl
    rw [e] at hK; exact hK
  · have e : crB w i k = false := by
      rw [crB, inS, inS, b, c]; simp
    rw [e] at hK; exact hK
  · have e : crB w i k = false := by
      rw [crB, decide_eq_false (by simpa using a)]; rfl
    rw [e] at hK; exact hK
def c_cross : Ctr Tryz.prog := ⟨186, ent Tryz.func186 rfl rfl, [], sp_cross, good_cross, []⟩
@[go_sem] theorem c_cross_f : c_cross.f = 186 := rfl
@[go_sem] theorem c_cross_ms : c_cross.ms = [] := rfl
@[go_sem] theorem c_cross_sp : c_cross.spec = sp_cross := rfl
@[go_sem] theorem c_cross_fz : c_cross.fz = [] := rfl
attribute [go_sem] sp_cross
theorem y_len {w : List Int} (h : isW w = true) : w.length ≤ 12 := (Go.Proofs.YthfmlelodmcgkaaGreat.L.word_range (by rw [← Go.Proofs.YthfmlelodmcgkaaGreat.L.isW_eq]; exact h)).1
theorem y_two {w : List Int} (hw : isW w = true) {i : Int} (h0 : 0 ≤ i) (h1 : i < ((w.length / 2 : Nat) : Int)) : w.count i = 2 := by
  obtain ⟨m, hm⟩ := Go.Proofs.YthfmlelodmcgkaaGreat.L.word_of w (by rw [← Go.Proofs.YthfmlelodmcgkaaGreat.L.isW_eq]; exact hw)
  have hl := hm.len
  have := hm.two i.toNat (by omega)
  rwa [Int.toNat_of_nonneg h0] at this
theorem y_half {n : Nat} (h : n ≤ 12) : w64 (((n : Nat) : Int).tdiv 2) = ((n / 2 : Nat) : Int) := by
  rw [show ((n : Nat) : Int).tdiv 2 = ((n / 2 : Nat) : Int) from rfl]
  exact w64_id (by omega) (by omega)
theorem pl_apart {w : List Int} {i k : Int} (hi : w.count i = 2) (hk : w.count k = 2) (h : i ≠ k) : pl1 w i < pl2 w i ∧ pl1 w k < pl2 w k ∧ pl1 w i ≠ pl1 w k ∧ pl1 w i ≠ pl2 w k ∧ pl2 w i ≠ pl1 w k ∧ pl2 w i ≠ pl2 w k := by
  obtain ⟨a, b, ab, bl, p1, p2, _, _, g1, g2, _⟩ := pl_two hi
  obtain ⟨c, d, cd, dl, q1, q2, _, _, k1, k2, _⟩ := pl_two hk
  rw [p1, p2, q1, q2]
  have ne : ∀ {x y : Nat}, w.getD x 0 = i → w.getD y 0 = k → (x : Int) ≠ y := fun {x y} hx hy e => by
    have e : x = y := by omega
    subst e
    exact h (hx.symm.trans hy)
  exact ⟨by omega, by omega, ne g1 k1, ne g1 k2, ne g2 k1, ne g2 k2⟩
theorem cr_in {w : List Int} {i k : Int} (hi : w.count i = 2) (hk : w.count k = 2) (h : k ≠ i) : crB w i k = !decide (inB (pl1 w k) (pl1 w i) (pl2 w i) = inB (pl2 w k) (pl1 w i) (pl2 w i)) := by
  obtain ⟨h1, h2, h3, h4, h5, h6⟩ := pl_apart hi hk (Ne.symm h)
  rw [crB, decide_eq_true (Ne.symm h), Bool.true_and]
  unfold inS inB
  generalize pl1 w i = a at *
  generalize pl2 w i = b at *
  generalize pl1 w k = c at *
  generalize pl2 w k = d at *
  rw [show decide (a < c) = decide (a ≤ c) from decide_eq_decide.2 (by omega), show decide (c < b) = decide (c ≤ b) from decide_eq_decide.2 (by omega), show decide (a < d) = decide (a ≤ d) from decide_eq_decide.2 (by omega), show decide (d < b) = decide (d ≤ b) from decide_eq_decide.2 (by omega)]
  cases (decide (a ≤ c) && decide (c ≤ b)) <;> cases (decide (a ≤ d) && decide (d ≤ b)) <;> rfl
theorem y_set {M i : Nat} {p q : Nat → Int} (h : ∀ j, j < M → j ≠ i → p j = q j) : ((List.range M).map p).set i (q i) = (List.range M).map q := by
  refine List.ext_getElem (by rw [List.length_set, List.length_map, List.length_map]) (fun j h1 h2 => ?_)
  rw [List.length_map, List.length_range] at h2
  rw [List.getElem_set]
  simp only [List.getElem_map, List.getElem_range]
  split
  · rename_i e; rw [e]
  · rename_i e; exact h j h2 (fun k => e k.symm)
def midY (f : Nat → Int) (k j : Nat) : Int := if j < k then f j else 0
theorem midY_0 (M : Nat) (f : Nat → Int) : List.replicate M 0 = (List.range M).map (midY f 0) := by
  refine List.ext_getElem (by simp) (fun j h1 h2 => ?_)
  simp [midY]
theorem midY_1 {M k : Nat} {f : Nat → Int} {x : Int} (h : f k = x) : ((List.range M).map (midY f k)).set k x = (List.range M).map (midY f (k + 1)) := by
  have := y_set (M := M) (i := k) (p := midY f k) (q := midY f (k + 1)) (fun j _ hj => by
    unfold midY
    by_cases h : j < k
    · rw [if_pos h, if_pos (by omega)]
    · rw [if_neg h, if_neg (by omega)])
  rw [show midY f (k + 1) k = x by unfold midY; rw [if_pos (by omega), h]] at this
  exact this
theorem midY_2 {M k : Nat} {f : Nat → Int} (h : f k = 0) : (List.range M).map (midY f k) = (List.range M).map (midY f (k + 1)) := by
  refine List.map_congr_left fun j _ => ?_
  unfold midY
  by_cases h1 : j < k
  · rw [if_pos h1, if_pos (by omega)]
  · rw [if_neg h1]
    split
    · rw [show j = k by omega, h]
    · rfl
theorem midY_end {M : Nat} {f : Nat → Int} : (List.range M).map (midY f M) = (List.range M).map f := List.map_congr_left fun j hj => by unfold midY; rw [if_pos (List.mem_range.1 hj)]
def crI (w : List Int) (i k : Nat) : Int := if crB w i k then 1 else 0
def crRow (w : List Int) (n i : Nat) : List Int := (List.range n).map (crI w i)
def crRows (w : List Int) (n m : Nat) : List (List Int) := (List.range m).map (crRow w n)
def sp_l01Cross : List Cv → List Obj' → Tree
  | [.one (.ro (.int .i64) w)], [] => .need (isW w = true) (.ret (.val (.one (.own 0))) [.drow 26 (.sl 2 (.int .i64)) (crRows w (w.length / 2) (w.length / 2))])
  | _, _ => .fail
set_option maxHeartbeats 4000000 in
set_option maxRecDepth 100000 in
theorem good_l01Cross : Good Tryz.prog 103 sp_l01Cross := by
  refine good_ofF Tryz.func103 rfl _ rfl _ rfl (tab [c_l01Places, c_l01In]) (fun X cs os0 K hok hos hK => ?_)
  clear hos; unfold sp_l01Cross at hK
  split at hK
  case h_2 => exact hK.elim
  rename_i w
  refine ⟨by simp, by simp, ?_⟩
  simp only [go_sem] at hK hok
  simp (maxSteps := 4000000) only [go_sem, Tryz.f103, ↓brB_t, ↓brB_f, Nat.reduceAdd, Int.reduceLE, Int.reduceLT, Int.reduceNeg, decide_true, decide_false, Bool.and_self, Nat.succ_eq_add_one, Int.toNat_natCast, Nat.beq_refl, Bool.and_true, Bool.true_and, Bool.false_or, Bool.or_true, List.all_cons, List.all_nil, Nat.reduceMul, Nat.add_zero, Nat.zero_add, List.length_nil, List.length_cons, dite_true, List.nil_append, Nat.reduceBEq, reduceDIte, reduceIte, reduceCtorEq, Bool.or_false, Bool.true_or, Bool.and_false, Bool.false_and, Bool.not_true, Bool.not_false, Option.isSome_some, Option.isSome_none, Option.getD_some, List.getElem?_cons_zero, List.getElem?_cons_succ, eq_self, and_self, List.take_succ_cons, List.take_zero, List.drop_succ_cons, List.drop_zero]
  obtain ⟨h1, hK⟩ := hK
  clear hok
  have hl := y_len h1
  have two := fun (j : Nat) (hj : j < w.length / 2) => y_two h1 (i := (j : Int)) (by omega) (by omega)
  rw [y_half hl]
  generalize hn : w.length / 2 = n at *
  refine ⟨by decide, ?_⟩
  refine loop_okF (T := tab [c_l01Places, c_l01In]) [0, 3, 4, 5] [(16, 208)] (fun i : Nat => ⟨62, [(0, ri w), (3, ow 16), (4, vi n), (5, vi i)], [(16, .drow 26 (.sl 2 (.int .i64)) (crRows w n i))]⟩)
    (fun i => i ≤ n) (fun i => n - i) 0 rfl rfl (Nat.zero_le _) (fun i hi => ?_)
  simp only [go_sem, ↓brB_t, ↓brB_f, Nat.reduceAdd, Int.reduceLE, Int.reduceLT, Int.reduceNeg, decide_true, decide_false, Bool.and_self, Nat.succ_eq_add_one, Int.toNat_natCast, Nat.beq_refl, Bool.and_true, Bool.true_and, Bool.false_or, Bool.or_true, List.all_cons, List.all_nil, Nat.reduceMul, Nat.add_zero, Nat.zero_add, List.length_nil, List.length_cons, dite_true, List.nil_append, Nat.reduceBEq, reduceDIte, reduceIte, reduceCtorEq, Bool.or_false, Bool.true_or, Bool.and_false, Bool.false_and, Bool.not_true, Bool.not_false, Option.isSome_some, Option.isSome_none, Option.getD_some, List.getElem?_cons_zero, List.getElem?_cons_succ, eq_self, and_self, List.take_succ_cons, List.take_zero, List.drop_succ_cons, List.drop_zero]
  refine brB_intro (fun h2 => ?_) (fun h2 => retN [16] rfl ?_)
  · have h2 := of_decide_eq_true h2
    have hw1 : w64 ((i : Int) + 1) = ((i + 1 : Nat) : Int) := w64_s (n := n) (by omega) (by omega)
    refine ⟨⟨by omega, by omega, trivial⟩, ⟨by omega, two i (by omega)⟩, ?_⟩
    refine loop_okF (T := tab [c_l01Places, c_l01In]) [0, 3, 4, 5, 6, 7, 8, 9] [(16, 16), (17, 368)] (fun k : Nat => ⟨62, [(0, ri w), (3, ow 16), (4, vi n), (5, vi i), (6, ow 17), (7, vi (pl1 w i)), (8, vi (pl2 w i)), (9, vi k)], [(16, .drow 26 (.sl 2 (.int .i64)) (crRows w n i)), (17, rwi ((List.range n).map (midY (crI w i) k)))]⟩)
      (fun k => k ≤ n) (fun k => n - k) 0 rfl (by rw [← midY_0]; rfl) (Nat.zero_le _) (fun k hk => ?_)
    simp only [go_sem, ↓brB_t, ↓brB_f, Nat.reduceAdd, Int.reduceLE, Int.reduceLT, Int.reduceNeg, decide_true, decide_false, Bool.and_self, Nat.succ_eq_add_one, Int.toNat_natCast, Nat.beq_refl, Bool.and_true, Bool.true_and, Bool.false_or, Bool.or_true, List.all_cons, List.all_nil, Nat.reduceMul, Nat.add_zero, Nat.zero_add, List.length_nil, List.length_cons, dite_true, List.nil_append, Nat.reduceBEq, reduceDIte, reduceIte, reduceCtorEq, Bool.or_false, Bool.true_or, Bool.and_false, Bool.false_and, Bool.not_true, Bool.not_false, Option.isSome_some, Option.isSome_none, Option.getD_some, List.getElem?_cons_zero, List.getElem?_cons_succ, eq_self, and_self, List.take_succ_cons, List.take_zero, List.drop_succ_cons, List.drop_zero]
    rw [List.length_map, List.length_range]
    refine brB_intro (fun h3 => ?_) (fun h3 => ?_)
    · have h3 := of_decide_eq_true h3
      have hk1 : w64 ((k : Int) + 1) = ((k + 1 : Nat) : Int) := w64_s (n := n) (by omega) (by omega)
      rw [hk1]
      refine ⟨⟨by omega, two k (by omega)⟩, brB_intro (fun h4 => brB_intro (fun h5 => ?_) (fun h5 => ?_)) (fun h4 => ?_)⟩
      · have e : crI w i k = 1 := by rw [crI, cr_in (two i (by omega)) (two k (by omega)) (by simpa using h4), h5]; rfl
        rw [midY_1 e]
        exact ⟨⟨by omega, by omega⟩, k + 1, [(16, 16), (17, 17)], by omega, by omega, rfl, rfl⟩
      · have e : crI w i k = 0 := by rw [crI, cr_in (two i (by omega)) (two k (by omega)) (by simpa using h4), h5]; rfl
        rw [midY_2 e]
        exact ⟨k + 1, [(16, 16), (17, 17)], by omega, by omega, rfl, rfl⟩
      · have h4 : (k : Int) = i := by simpa using h4
        have e : crI w i k = 0 := by rw [crI, crB, decide_eq_false (by rw [h4]; simp)]; rfl
        rw [midY_2 e]
        exact ⟨k + 1, [(16, 16), (17, 17)], by omega, by omega, rfl, rfl⟩
    · have h3 := of_decide_eq_false h3
      have e : k = n := by omega
      subst e
      rw [midY_end, hw1, show crRows w k i ++ [List.map (crI w i) (List.range k)] = crRows w k (i + 1) by rw [crRows, crRows, List.range_succ, List.map_append]; rfl]
      exact ⟨by rw [crRows, List.length_map, List.length_range]; omega, i + 1, [(16, 976)], by omega, by omega, rfl, rfl⟩
  · have h2 := of_decide_eq_false h2
    have e : i = n := by omega
    rw [e]; exact hK
def c_l01Cross : Ctr Tryz.prog := ⟨103, ent Tryz.func103 rfl rfl, [], sp_l01Cross, good_l01Cross, []⟩
@[go_sem] theorem c_l01Cross_f : c_l01Cross.f = 103 := rfl
@[go_sem] theorem c_l01Cross_ms : c_l01Cross.ms = [] := rfl
@[go_sem] theorem c_l01Cross_sp : c_l01Cross.spec = sp_l01Cross := rfl
@[go_sem] theorem c_l01Cross_fz : c_l01Cross.fz = [] := rfl
attribute [go_sem] sp_l01Cross
end Go.Proofs.YthfmlelodmcgkaaGreat.V
end
section
namespace Go.Proofs.YthfmlelodmcgkaaGreat.V
open Go
def addL (w : List Int) (p q : Nat) : List Int := Go.Proofs.YthfmlelodmcgkaaGreat.K.normalL (w.take p ++ [99] ++ (w.take q).drop p ++ [99] ++ w.drop q)
theorem cut_mem {w : List Int} {p q : Nat} (hpq : p ≤ q) {x : Int} (h : x ∉ w) : x ∉ w.take p ++ (w.take q).drop p ++ w.drop q := by
  intro hx
  rcases List.mem_append.1 hx with hx | hx
  · rcases List.mem_append.1 hx with hx | hx
    · exact h (List.mem_of_mem_take hx)
    · exact h (List.mem_of_mem_take (List.mem_of_mem_drop hx))
  · exact h (List.mem_of_mem_drop hx)
theorem add_ins {w : List Int} {p q : Nat} {m : Int} (hpq : p ≤ q) (hq : q ≤ w.length) (hm : m ∉ w) (h9 : (99 : Int) ∉ w) : Go.Proofs.YthfmlelodmcgkaaGreat.K.normalL (Go.Proofs.YthfmlelodmcgkaaGreat.K.insL (Go.Proofs.YthfmlelodmcgkaaGreat.K.insL w [m] q) [m] p) = addL w p q := by
  rw [Go.Proofs.YthfmlelodmcgkaaGreat.L.ins_twice w m p q hpq hq, addL]
  exact Go.Proofs.YthfmlelodmcgkaaGreat.L.normal_new _ _ _ m 99 (cut_mem hpq hm) (cut_mem hpq h9)
theorem w_notin {w : List Int} (hw : isW w = true) {m : Int} (h : ((w.length / 2 : Nat) : Int) ≤ m) : m ∉ w := fun hx => by
  obtain ⟨h1, h2⟩ := Go.Proofs.YthfmlelodmcgkaaGreat.L.word_range (by rw [← Go.Proofs.YthfmlelodmcgkaaGreat.L.isW_eq]; exact hw)
  have := h2 m hx
  omega
def sp_wc : List Cv → List Obj' → Tree
  | [.one (.ro (.int .i64) w), .one (.v (.int .i64 p)), .one (.v (.int .i64 q))], [] => .need (isW w = true ∧ 0 ≤ p ∧ p ≤ q ∧ q ≤ w.length) (.ret (ow 0) [rwi (addL w p.toNat q.toNat)])
  | _, _ => .fail
set_option maxHeartbeats 4000000 in
set_option maxRecDepth 100000 in
theorem good_wc : Good Tryz.prog 150 sp_wc := by
  refine good_ofF Tryz.func150 rfl _ rfl _ rfl (tab [c_chords, c_inserted, c_normal]) (fun X cs os0 K hok hos hK => ?_)
  clear hos; unfold sp_wc at hK
  split at hK
  case h_2 => exact hK.elim
  rename_i w p q
  refine ⟨by simp, by simp, ?_⟩
  simp only [go_sem] at hK hok
  simp (maxSteps := 4000000) only [go_sem, Tryz.f150, ↓brB_t, ↓brB_f, Nat.reduceAdd, Int.reduceLE, Int.reduceLT, Int.reduceNeg, decide_true, decide_false, Bool.and_self, Nat.succ_eq_add_one, Int.toNat_natCast, Nat.beq_refl, Bool.and_true, Bool.true_and, Bool.false_or, Bool.or_true, List.all_cons, List.all_nil, Nat.reduceMul, Nat.add_zero, Nat.zero_add, List.length_nil, List.length_cons, dite_true, List.nil_append, Nat.reduceBEq, reduceDIte, reduceIte, reduceCtorEq, Bool.or_false, Bool.true_or, Bool.and_false, Bool.false_and, Bool.not_true, Bool.not_false, Option.isSome_some, Option.isSome_none, Option.getD_some, List.getElem?_cons_zero, List.getElem?_cons_succ, eq_self, and_self, List.take_succ_cons, List.take_zero, List.drop_succ_cons, List.drop_zero]
  obtain ⟨⟨h1, h2, h3, h4⟩, hK⟩ := hK
  clear hok
  have hl := y_len h1
  have l1 := insL_len (w := w) (m := [((w.length / 2 : Nat) : Int)]) (i := q.toNat) (by omega)
  have l2 := insL_len (w := Go.Proofs.YthfmlelodmcgkaaGreat.K.insL w [((w.length / 2 : Nat) : Int)] q.toNat) (m := [((w.length / 2 : Nat) : Int)]) (i := p.toNat) (by omega)
  rw [← add_ins (m := ((w.length / 2 : Nat) : Int)) (by omega) (by omega) (w_notin h1 (Int.le_refl _)) (w_notin h1 (by omega))] at hK
  simp only [List.length_singleton] at l1 l2
  exact ⟨⟨by omega, by omega, by omega, by omega⟩, ⟨by omega, by omega, by omega, by omega⟩, by omega, retN [320] rfl hK⟩
def c_wc : Ctr Tryz.prog := ⟨150, ent Tryz.func150 rfl rfl, [], sp_wc, good_wc, []⟩
@[go_sem] theorem c_wc_f : c_wc.f = 150 := rfl
@[go_sem] theorem c_wc_ms : c_wc.ms = [] := rfl
@[go_sem] theorem c_wc_sp : c_wc.spec = sp_wc := rfl
@[go_sem] theorem c_wc_fz : c_wc.fz = [] := rfl
attribute [go_sem] sp_wc
set_option maxHeartbeats 4000000 in
set_option maxRecDepth 100000 in
theorem good_addS : Good Tryz.prog 144 sp_wc := by
  refine good_ofF Tryz.func144 rfl _ rfl _ rfl (tab [c_own, c_l01Normal]) (fun X cs os0 K hok hos hK => ?_)
  clear hos; unfold sp_wc at hK
  split at hK
  case h_2 => exact hK.elim
  rename_i w p q
  refine ⟨by simp, by simp, ?_⟩
  simp only [go_sem] at hK hok
  simp (maxSteps := 4000000) only [go_sem, Tryz.f144, ↓brB_t, ↓brB_f, Nat.reduceAdd, Int.reduceLE, Int.reduceLT, Int.reduceNeg, decide_true, decide_false, Bool.and_self, Nat.succ_eq_add_one, Int.toNat_natCast, Nat.beq_refl, Bool.and_true, Bool.true_and, Bool.false_or, Bool.or_true, List.all_cons, List.all_nil, Nat.reduceMul, Nat.add_zero, Nat.zero_add, List.length_nil, List.length_cons, dite_true, List.nil_append, Nat.reduceBEq, reduceDIte, reduceIte, reduceCtorEq, Bool.or_false, Bool.true_or, Bool.and_false, Bool.false_and, Bool.not_true, Bool.not_false, Option.isSome_some, Option.isSome_none, Option.getD_some, List.getElem?_cons_zero, List.getElem?_cons_succ, eq_self, and_self, List.take_succ_cons, List.take_zero, List.drop_succ_cons, List.drop_zero]
  obtain ⟨⟨h1, h2, h3, h4⟩, hK⟩ := hK
  clear hok
  have hl := y_len h1
  have e : (List.drop p.toNat (List.take q.toNat w)).length ≤ 12 := by rw [List.length_drop, List.length_take]; omega
  have e1 : (List.take p.toNat w).length ≤ 12 := by rw [List.length_take]; omega
  have e2 : (List.drop q.toNat w).length ≤ 12 := by rw [List.length_drop]; omega
  rw [addL] at hK
  generalize List.drop p.toNat (List.take q.toNat w) = b at *
  simp only [List.length_append, List.length_singleton]
  exact ⟨by omega, by omega, by omega, by omega, by omega, by omega, by omega, by omega, by omega, retN [464] rfl hK⟩
def c_addS : Ctr Tryz.prog := ⟨144, ent Tryz.func144 rfl rfl, [], sp_wc, good_addS, []⟩
@[go_sem] theorem c_addS_f : c_addS.f = 144 := rfl
@[go_sem] theorem c_addS_ms : c_addS.ms = [] := rfl
@[go_sem] theorem c_addS_sp : c_addS.spec = sp_wc := rfl
@[go_sem] theorem c_addS_fz : c_addS.fz = [] := rfl
attribute [go_sem] sp_wc
theorem twice_add {a b c : List Int} {m : Int} (h : Go.Proofs.YthfmlelodmcgkaaGreat.K.twiceL (a ++ b ++ c) = true) (hm : m ∉ a ++ b ++ c) : Go.Proofs.YthfmlelodmcgkaaGreat.K.twiceL (a ++ [m] ++ b ++ [m] ++ c) = true := by
  unfold Go.Proofs.YthfmlelodmcgkaaGreat.K.twiceL at h ⊢
  rw [List.all_eq_true] at h ⊢
  intro x hx
  have h0 : (a ++ b ++ c).count m = 0 := List.count_eq_zero.2 hm
  have hc : ∀ x, (a ++ [m] ++ b ++ [m] ++ c).count x = (a ++ b ++ c).count x + (if x = m then 2 else 0) := fun x => by
    simp only [List.count_append, List.count_cons, List.count_nil, beq_iff_eq]
    by_cases e : x = m
    · subst e; simp; omega
    · have e' : ¬ m = x := fun h => e h.symm
      simp [e, e']
  rw [hc]
  by_cases e : x = m
  · subst e; rw [h0, if_pos rfl]; rfl
  · rw [if_neg e, Nat.add_zero]
    refine h x ?_
    simp only [List.mem_append, List.mem_singleton, e, or_false] at hx ⊢
    exact hx
theorem take_pq {w : List Int} {p q : Nat} (hpq : p ≤ q) : w.take p ++ (w.take q).drop p ++ w.drop q = w := by
  have : w.take p = (w.take q).take p := by rw [List.take_take, Nat.min_eq_left hpq]
  rw [this, List.take_append_drop, List.take_append_drop]
theorem addL_isW {w : List Int} (hw : isW w = true) {p q : Nat} (hpq : p ≤ q) (hq : q ≤ w.length) (hl : w.length ≤ 10) : isW (addL w p q) = true := by
  have h9 : (99 : Int) ∉ w := w_notin hw (by have := y_len hw; omega)
  have ht : Go.Proofs.YthfmlelodmcgkaaGreat.K.twiceL w = true := by
    unfold isW at hw
    rw [Bool.and_eq_true, Bool.and_eq_true] at hw
    exact hw.2.1
  refine normal_isW ?_ (twice_add (by rw [take_pq hpq]; exact ht) (by rw [take_pq hpq]; exact h9))
  simp only [List.length_append, List.length_singleton, List.length_take, List.length_drop]
  omega
end Go.Proofs.YthfmlelodmcgkaaGreat.V
end
section
namespace Go.Proofs.YthfmlelodmcgkaaGreat.V
open Go
theorem normal_rng (l : List Int) : ∀ x ∈ Go.Proofs.YthfmlelodmcgkaaGreat.K.normalL l, 0 ≤ x ∧ x < l.length := by
  intro x hx
  have h1 := Go.Proofs.YthfmlelodmcgkaaGreat.L.normFrom_range l [] x hx
  have h2 : (Go.Proofs.YthfmlelodmcgkaaGreat.K.metBy [] l).length ≤ l.length := by simpa using metBy_length l []
  omega
theorem addL_sm {w : List Int} (hw : isW w = true) {p q : Nat} (hpq : p ≤ q) (hq : q ≤ w.length) : smB (addL w p q) := by
  have hl := isW_len hw
  have hn : (addL w p q).length ≤ 24 := by
    rw [addL, Go.Proofs.YthfmlelodmcgkaaGreat.K.normalL_length]
    simp only [List.length_append, List.length_singleton, List.length_take, List.length_drop]
    omega
  refine ⟨hn, fun x hx => ?_⟩
  have h := normal_rng _ x hx
  rw [addL, Go.Proofs.YthfmlelodmcgkaaGreat.K.normalL_length] at hn
  omega
def endsL (w : List Int) (i : Int) : List Int := [pl1 w i, pl1 w i + 1, pl2 w i, pl2 w i + 1]
def fourT (w : List Int) (i x s t : Int) (k : Nat) : TermL := (List.range k).map fun j => (addL w (mn x ((endsL w i).getD j 0)).toNat (mx x ((endsL w i).getD j 0)).toNat, if j % 2 = 0 then s else t)
theorem fourT_s (w : List Int) (i x s t : Int) (k : Nat) : fourT w i x s t (k + 1) = fourT w i x s t k ++ [(addL w (mn x ((endsL w i).getD k 0)).toNat (mx x ((endsL w i).getD k 0)).toNat, if k % 2 = 0 then s else t)] := by rw [fourT, List.range_succ, List.map_append]; rfl
theorem two_of {w : List Int} (hw : isW w = true) {i : Int} (h0 : 0 ≤ i) (h1 : i < ((w.length / 2 : Nat) : Int)) : w.count i = 2 := by
  obtain ⟨m, hm⟩ := Go.Proofs.YthfmlelodmcgkaaGreat.L.word_of w (by rw [← Go.Proofs.YthfmlelodmcgkaaGreat.L.isW_eq]; exact hw)
  have hl := hm.len
  have := hm.two i.toNat (by omega)
  rwa [Int.toNat_of_nonneg h0] at this
theorem ends_in {w : List Int} (hw : isW w = true) {i : Int} (h0 : 0 ≤ i) (h1 : i < ((w.length / 2 : Nat) : Int)) : w64 (pl1 w i + 1) = pl1 w i + 1 ∧ w64 (pl2 w i + 1) = pl2 w i + 1 ∧ ∀ j, 0 ≤ (endsL w i).getD j 0 ∧ (endsL w i).getD j 0 ≤ (w.length : Int) := by
  have hl := isW_len hw
  obtain ⟨a, b, h2, h3, h4, h5, _⟩ := pl_two (two_of hw h0 h1)
  unfold endsL
  rw [h4, h5]
  refine ⟨w64_id (by omega) (by omega), w64_id (by omega) (by omega), fun j => ?_⟩
  match j with
  | 0 => exact ⟨by show (0 : Int) ≤ a; omega, by show (a : Int) ≤ _; omega⟩
  | 1 => exact ⟨by show (0 : Int) ≤ a + 1; omega, by show (a : Int) + 1 ≤ _; omega⟩
  | 2 => exact ⟨by show (0 : Int) ≤ b; omega, by show (b : Int) ≤ _; omega⟩
  | 3 => exact ⟨by show (0 : Int) ≤ b + 1; omega, by show (b : Int) + 1 ≤ _; omega⟩
  | j + 4 => exact ⟨Int.le_refl 0, by show (0 : Int) ≤ _; omega⟩
theorem mn_mx {x y n : Int} (h0 : 0 ≤ x) (h1 : x ≤ n) (h2 : 0 ≤ y) (h3 : y ≤ n) : 0 ≤ mn x y ∧ mn x y ≤ mx x y ∧ mx x y ≤ n := by
  unfold mn mx
  split <;> split <;> omega
theorem fourT_sm {w : List Int} (hw : isW w = true) {i x s t : Int} (h0 : 0 ≤ i) (h1 : i < ((w.length / 2 : Nat) : Int)) (h2 : 0 ≤ x) (h3 : x ≤ (w.length : Int)) (k : Nat) : ∀ y ∈ fourT w i x s t k, smB y.1 ∧ (y.2 = s ∨ y.2 = t) := fun y hy => by
  obtain ⟨j, _, rfl⟩ := List.mem_map.1 hy
  have he := (ends_in hw h0 h1).2.2 j
  have hm := mn_mx h2 h3 he.1 he.2
  refine ⟨addL_sm hw (by omega) (by omega), ?_⟩
  show (if j % 2 = 0 then s else t) = s ∨ (if j % 2 = 0 then s else t) = t
  split
  · exact .inl rfl
  · exact .inr rfl
theorem fourT_wS (w : List Int) (i x p : Int) (u : List Int) : ∀ k, ∃ c : Int, wS (fourT w i x 1 (p - 1) k) u = wS (fourT w i x 1 (-1) k) u + p * c
  | 0 => ⟨0, by simp [fourT, wS]⟩
  | k + 1 => by
    obtain ⟨c, hc⟩ := fourT_wS w i x p u k
    rw [fourT_s, fourT_s, wS_append, wS_append, hc]
    simp only [wS]
    by_cases hk : k % 2 = 0
    · rw [if_pos hk, if_pos hk]
      exact ⟨c, by omega⟩
    · rw [if_neg hk, if_neg hk]
      by_cases hu : addL w (mn x ((endsL w i).getD k 0)).toNat (mx x ((endsL w i).getD k 0)).toNat = u
      · rw [if_pos hu, if_pos hu]
        exact ⟨c + 1, by rw [Int.mul_add, Int.mul_one]; omega⟩
      · rw [if_neg hu, if_neg hu]
        exact ⟨c, by omega⟩
theorem fourT_cF {p : Int} (h0 : 0 < p) (h1 : p ≤ 13) {w : List Int} (hw : isW w = true) {i x : Int} (h2 : 0 ≤ i) (h3 : i < ((w.length / 2 : Nat) : Int)) (h4 : 0 ≤ x) (h5 : x ≤ (w.length : Int)) :
    cF p (fun _ => 0) (fourT w i x 1 (-1) 4) = cF p (fun _ => 0) (fourT w i x 1 (p - 1) 4) := by
  refine cF_eq h0 (by omega) (fun y hy => ?_) (fun y hy => ?_) (fun u => ?_)
  · have := (fourT_sm hw h2 h3 h4 h5 4 y hy).2; omega
  · have := (fourT_sm hw h2 h3 h4 h5 4 y hy).2; omega
  · obtain ⟨c, hc⟩ := fourT_wS w i x p u 4
    rw [hc, Int.add_mul_emod_self_left]
theorem sign_k {k : Nat} (h : k < 4) : w64 (1 - w64 (2 * ((k : Int).tmod 2))) = if k % 2 = 0 then 1 else -1 := by
  match k, h with
  | 0, _ => exact (by decide)
  | 1, _ => exact (by decide)
  | 2, _ => exact (by decide)
  | 3, _ => exact (by decide)
def sp_four : List Cv → List Obj' → Tree
  | [.one (.v (.int .i64 p)), .one (.ro (.int .i64) w), .one (.v (.int .i64 i)), .one (.v (.int .i64 x))], [] => .need (0 < p ∧ p ≤ 13 ∧ isW w = true ∧ 0 ≤ i ∧ i < ((w.length / 2 : Nat) : Int) ∧ 0 ≤ x ∧ x ≤ (w.length : Int))
      (.ret (.val (.agg [.v (.int .i64 p), .own 0])) [.drow 87 (.pr (.sl 2 (.int .i64)) (.int .i64)) (jS p (fourT w i x 1 (p - 1) 4))])
  | _, _ => .fail
set_option maxHeartbeats 4000000 in
set_option maxRecDepth 100000 in
theorem good_fourI : Good Tryz.prog 106 sp_four := by
  refine good_ofF Tryz.func106 rfl _ rfl _ rfl (tab [c_places, c_newG, c_gAdd, c_gSum, c_wc]) (fun X cs os0 K hok hos hK => ?_)
  clear hos; unfold sp_four at hK
  split at hK
  case h_2 => exact hK.elim
  rename_i p w i x
  refine ⟨by simp, by simp, ?_⟩
  simp only [go_sem] at hK hok
  simp (maxSteps := 4000000) only [go_sem, Tryz.f106, ↓brB_t, ↓brB_f, Nat.reduceAdd, Int.reduceLE, Int.reduceLT, Int.reduceNeg, decide_true, decide_false, Bool.and_self, Nat.succ_eq_add_one, Int.toNat_natCast, Nat.beq_refl, Bool.and_true, Bool.true_and, Bool.false_or, Bool.or_true, List.all_cons, List.all_nil, Nat.reduceMul, Nat.add_zero, Nat.zero_add, List.length_nil, List.length_cons, dite_true, List.nil_append, Nat.reduceBEq, reduceDIte, reduceIte, reduceCtorEq, Bool.or_false, Bool.true_or, Bool.and_false, Bool.false_and, Bool.not_true, Bool.not_false, Option.isSome_some, Option.isSome_none, Option.getD_some, List.getElem?_cons_zero, List.getElem?_cons_succ, eq_self, and_self, List.take_succ_cons, List.take_zero, List.drop_succ_cons, List.drop_zero]
  obtain ⟨⟨h1, h2, h3, h4, h5, h6, h7⟩, hK⟩ := hK
  clear hok
  have hl := isW_len h3
  obtain ⟨e1, e2, e3⟩ := ends_in h3 h4 h5
  rw [e1, e2]
  refine ⟨⟨by omega, two_of h3 h4 h5⟩, ?_⟩
  refine loop_okF (T := tab [c_places, c_newG, c_gAdd, c_gSum, c_wc]) [1, 3, 8, 11, 28, 29, 30] [(16, 144), (17, 352), (18, 353), (19, 464)] (fun k : Nat => ⟨52, [(1, ri w), (3, vi x), (8, .val (.one (.ptr 16 0))), (11, .val (.one (.ptr 17 0))), (28, .val (.one (.own 19))), (29, vi 4), (30, vi k)],
      [(16, .box tS' [.v (.int .i64 0), .v (.slice none 0 0)]), (17, oG p 18), (18, oM (gS p [] (fourT w i x 1 (-1) k))), (19, .row 3 (.int .i64) (endsL w i))]⟩)
    (fun k => k ≤ 4) (fun k => 4 - k) 0 rfl rfl (Nat.zero_le _) (fun k hk => ?_)
  have hm := mn_mx h6 h7 (e3 k).1 (e3 k).2
  have hgl := gS_len p (fourT w i x 1 (-1) k) []
  have hfl : (fourT w i x 1 (-1) k).length = k := by simp [fourT]
  simp only [go_sem, ↓brB_t, ↓brB_f, Nat.reduceAdd, Int.reduceLE, Int.reduceLT, Int.reduceNeg, decide_true, decide_false, Bool.and_self, Nat.succ_eq_add_one, Int.toNat_natCast, Nat.beq_refl, Bool.and_true, Bool.true_and, Bool.false_or, Bool.or_true, List.all_cons, List.all_nil, Nat.reduceMul, Nat.add_zero, Nat.zero_add, List.length_nil, List.length_cons, dite_true, List.nil_append, Nat.reduceBEq, reduceDIte, reduceIte, reduceCtorEq, Bool.or_false, Bool.true_or, Bool.and_false, Bool.false_and, Bool.not_true, Bool.not_false, Option.isSome_some, Option.isSome_none, Option.getD_some, List.getElem?_cons_zero, List.getElem?_cons_succ, eq_self, and_self, List.take_succ_cons, List.take_zero, List.drop_succ_cons, List.drop_zero]
  refine brB_intro (fun h8 => ?_) (fun h8 => ?_)
  · have h8 := of_decide_eq_true h8
    have hsm := addL_sm h3 (p := (mn x ((endsL w i).getD k 0)).toNat) (q := (mx x ((endsL w i).getD k 0)).toNat) (by omega) (by omega)
    have hk1 : w64 ((k : Int) + 1) = ((k + 1 : Nat) : Int) := w64_s (n := 4) (by omega) (by omega)
    rw [sign_k (by omega), hk1]
    refine ⟨⟨by omega, by show (k : Int) < 4; omega⟩, ⟨h3, hm.1, hm.2.1, hm.2.2⟩, by decide, ⟨by omega, by have := hsm.1; omega, by simp only [List.length_nil] at hgl; omega, trivial⟩, k + 1, [(16, 16), (17, 17), (18, 18), (19, 19)], by omega, by omega, rfl, ?_⟩
    rw [fourT_s, gS_app p [] _ [_]]
    rfl
  · have h8 := of_decide_eq_false h8
    have e : k = 4 := by omega
    subst e
    have hsm : ∀ y ∈ fourT w i x 1 (-1) 4, smB y.1 := fun y hy => (fourT_sm h3 h4 h5 h6 h7 4 y hy).1
    have hsm2 : ∀ y ∈ fourT w i x 1 (p - 1) 4, smB y.1 := fun y hy => (fourT_sm h3 h4 h5 h6 h7 4 y hy).1
    have hc := gS_rep p (fourT w i x 1 (-1) 4) [] _ GRep.nil hsm
    rw [fourT_cF h1 h2 h3 h4 h5 h6 h7] at hc
    have e : sortT (nzT (gS p [] (fourT w i x 1 (-1) 4))) = jS p (fourT w i x 1 (p - 1) 4) := hc.sum (jS_rep p _ hsm2)
    refine ⟨⟨by simp only [List.length_nil] at hgl; omega, fun x hx => by have := (hc.key x hx).2.1; omega, hc.words⟩, retN [832] rfl ?_⟩
    rw [← e] at hK
    exact hK
def c_fourI : Ctr Tryz.prog := ⟨106, ent Tryz.func106 rfl rfl, [], sp_four, good_fourI, []⟩
@[go_sem] theorem c_fourI_f : c_fourI.f = 106 := rfl
@[go_sem] theorem c_fourI_ms : c_fourI.ms = [] := rfl
@[go_sem] theorem c_fourI_sp : c_fourI.spec = sp_four := rfl
@[go_sem] theorem c_fourI_fz : c_fourI.fz = [] := rfl
attribute [go_sem] sp_four
set_option maxHeartbeats 4000000 in
set_option maxRecDepth 100000 in
theorem good_fourS : Good Tryz.prog 101 sp_four := by
  refine good_ofF Tryz.func101 rfl _ rfl _ rfl (tab [c_l01Places, c_l03Empty, c_l03Put, c_addS]) (fun X cs os0 K hok hos hK => ?_)
  clear hos; unfold sp_four at hK
  split at hK
  case h_2 => exact hK.elim
  rename_i p w i x
  refine ⟨by simp, by simp, ?_⟩
  simp only [go_sem] at hK hok
  simp (maxSteps := 4000000) only [go_sem, Tryz.f101, ↓brB_t, ↓brB_f, Nat.reduceAdd, Int.reduceLE, Int.reduceLT, Int.reduceNeg, decide_true, decide_false, Bool.and_self, Nat.succ_eq_add_one, Int.toNat_natCast, Nat.beq_refl, Bool.and_true, Bool.true_and, Bool.false_or, Bool.or_true, List.all_cons, List.all_nil, Nat.reduceMul, Nat.add_zero, Nat.zero_add, List.length_nil, List.length_cons, dite_true, List.nil_append, Nat.reduceBEq, reduceDIte, reduceIte, reduceCtorEq, Bool.or_false, Bool.true_or, Bool.and_false, Bool.false_and, Bool.not_true, Bool.not_false, Option.isSome_some, Option.isSome_none, Option.getD_some, List.getElem?_cons_zero, List.getElem?_cons_succ, eq_self, and_self, List.take_succ_cons, List.take_zero, List.drop_succ_cons, List.drop_zero]
  obtain ⟨⟨h1, h2, h3, h4, h5, h6, h7⟩, hK⟩ := hK
  clear hok
  have hl := isW_len h3
  obtain ⟨e1, e2, e3⟩ := ends_in h3 h4 h5
  rw [e1, e2]
  have ep : w64 (p - 1) = p - 1 := w64_id (by omega) (by omega)
  rw [ep]
  refine ⟨⟨by omega, two_of h3 h4 h5⟩, ?_⟩
  refine loop_okF (T := tab [c_l01Places, c_l03Empty, c_l03Put, c_addS]) [1, 3, 8, 11, 12, 13, 14] [(16, 144), (17, 192), (18, 368), (19, 480), (20, 560)] (fun k : Nat => ⟨60, [(1, ri w), (3, vi x), (8, .val (.one (.ptr 16 0))), (11, .val (.one (.ptr 17 0))), (12, .val (.one (.own 19))), (13, .val (.one (.own 20))), (14, vi k)],
      [(16, .box tS' [.v (.int .i64 0), .v (.slice none 0 0)]), (17, .box tS' [.v (.int .i64 p), .own 18]), (18, .drow tI kTerm (jS p (fourT w i x 1 (p - 1) k))), (19, rwi (endsL w i)), (20, rwi [1, p - 1, 1, p - 1])]⟩)
    (fun k => k ≤ 4) (fun k => 4 - k) 0 rfl rfl (Nat.zero_le _) (fun k hk => ?_)
  have hm := mn_mx h6 h7 (e3 k).1 (e3 k).2
  have hjl := jS_len p (fourT w i x 1 (p - 1) k)
  have hfl : (fourT w i x 1 (p - 1) k).length = k := by simp [fourT]
  have hjw := jS_q (p := p) (q := fun u => u.length ≤ 24) (ts := fourT w i x 1 (p - 1) k) (fun y hy => (fourT_sm h3 h4 h5 h6 h7 k y hy).1.1)
  simp only [go_sem, ↓brB_t, ↓brB_f, Nat.reduceAdd, Int.reduceLE, Int.reduceLT, Int.reduceNeg, decide_true, decide_false, Bool.and_self, Nat.succ_eq_add_one, Int.toNat_natCast, Nat.beq_refl, Bool.and_true, Bool.true_and, Bool.false_or, Bool.or_true, List.all_cons, List.all_nil, Nat.reduceMul, Nat.add_zero, Nat.zero_add, List.length_nil, List.length_cons, dite_true, List.nil_append, Nat.reduceBEq, reduceDIte, reduceIte, reduceCtorEq, Bool.or_false, Bool.true_or, Bool.and_false, Bool.false_and, Bool.not_true, Bool.not_false, Option.isSome_some, Option.isSome_none, Option.getD_some, List.getElem?_cons_zero, List.getElem?_cons_succ, eq_self, and_self, List.take_succ_cons, List.take_zero, List.drop_succ_cons, List.drop_zero]
  refine brB_intro (fun h8 => ?_) (fun h8 => ?_)
  · have h8 := of_decide_eq_true h8
    have hsm := addL_sm h3 (p := (mn x ((endsL w i).getD k 0)).toNat) (q := (mx x ((endsL w i).getD k 0)).toNat) (by omega) (by omega)
    have hk1 : w64 ((k : Int) + 1) = ((k + 1 : Nat) : Int) := w64_s (n := 4) (by omega) (by omega)
    have es : [1, p - 1, 1, p - 1].getD k 0 = if k % 2 = 0 then 1 else p - 1 := by
      match k, (show k < 4 by omega) with
      | 0, _ => rfl
      | 1, _ => rfl
      | 2, _ => rfl
      | 3, _ => rfl
    refine ⟨⟨by omega, by show (k : Int) < 4; omega⟩, ⟨by omega, by show (k : Int) < 4; omega⟩, ⟨h3, hm.1, hm.2.1, hm.2.2⟩, ⟨by omega, by show (k : Int) < 4; omega⟩, ⟨by omega, by omega, by have := hsm.1; omega, fun y hy => by have := hjw y hy; omega⟩, by kernel_rfl, k + 1, [(16, 16), (17, 17), (18, 944), (19, 19), (20, 20)], by omega, by omega, rfl, ?_⟩
    rw [hk1, fourT_s, jS_s, ← es]
    rfl
  · have h8 := of_decide_eq_false h8
    have e : k = 4 := by omega
    subst e
    exact retN [18] rfl hK
def c_fourS : Ctr Tryz.prog := ⟨101, ent Tryz.func101 rfl rfl, [], sp_four, good_fourS, []⟩
@[go_sem] theorem c_fourS_f : c_fourS.f = 101 := rfl
@[go_sem] theorem c_fourS_ms : c_fourS.ms = [] := rfl
@[go_sem] theorem c_fourS_sp : c_fourS.spec = sp_four := rfl
@[go_sem] theorem c_fourS_fz : c_fourS.fz = [] := rfl
attribute [go_sem] sp_four
end Go.Proofs.YthfmlelodmcgkaaGreat.V
end
section
namespace Go.Proofs.YthfmlelodmcgkaaGreat.V
open Go
def sp_rows : List Cv → List Obj' → Tree
  | [.one (.ro (.int .i64) w)], [] => .need (isW w = true) (.ret (.val (.one (.own 0))) [.drow 26 (.sl 2 (.int .i64)) (crRows w (w.length / 2) (w.length / 2))])
  | _, _ => .fail
set_option maxHeartbeats 4000000 in
set_option maxRecDepth 100000 in
theorem good_rows : Good Tryz.prog 168 sp_rows := by
  refine good_ofF Tryz.func168 rfl _ rfl _ rfl (tab [c_chords, c_cross]) (fun X cs os0 K hok hos hK => ?_)
  clear hos; unfold sp_rows at hK
  split at hK
  case h_2 => exact hK.elim
  rename_i w
  refine ⟨by simp, by simp, ?_⟩
  simp only [go_sem] at hK hok
  simp (maxSteps := 4000000) only [go_sem, Tryz.f168, ↓brB_t, ↓brB_f, Nat.reduceAdd, Int.reduceLE, Int.reduceLT, Int.reduceNeg, decide_true, decide_false, Bool.and_self, Nat.succ_eq_add_one, Int.toNat_natCast, Nat.beq_refl, Bool.and_true, Bool.true_and, Bool.false_or, Bool.or_true, List.all_cons, List.all_nil, Nat.reduceMul, Nat.add_zero, Nat.zero_add, List.length_nil, List.length_cons, dite_true, List.nil_append, Nat.reduceBEq, reduceDIte, reduceIte, reduceCtorEq, Bool.or_false, Bool.true_or, Bool.and_false, Bool.false_and, Bool.not_true, Bool.not_false, Option.isSome_some, Option.isSome_none, Option.getD_some, List.getElem?_cons_zero, List.getElem?_cons_succ, eq_self, and_self, List.take_succ_cons, List.take_zero, List.drop_succ_cons, List.drop_zero]
  obtain ⟨h1, hK⟩ := hK
  clear hok
  have hl := y_len h1
  have two := fun (j : Nat) (hj : j < w.length / 2) => y_two h1 (i := (j : Int)) (by omega) (by omega)
  generalize hn : w.length / 2 = n at *
  refine loop_okF (T := tab [c_chords, c_cross]) [0, 3, 4, 11, 12] [(16, 176)] (fun i : Nat => ⟨35, [(0, ri w), (3, vi n), (4, ow 16), (11, vi n), (12, vi i)], [(16, .drow 26 (.sl 2 (.int .i64)) (crRows w n i))]⟩)
    (fun i => i ≤ n) (fun i => n - i) 0 rfl rfl (Nat.zero_le _) (fun i hi => ?_)
  simp only [go_sem, ↓brB_t, ↓brB_f, Nat.reduceAdd, Int.reduceLE, Int.reduceLT, Int.reduceNeg, decide_true, decide_false, Bool.and_self, Nat.succ_eq_add_one, Int.toNat_natCast, Nat.beq_refl, Bool.and_true, Bool.true_and, Bool.false_or, Bool.or_true, List.all_cons, List.all_nil, Nat.reduceMul, Nat.add_zero, Nat.zero_add, List.length_nil, List.length_cons, dite_true, List.nil_append, Nat.reduceBEq, reduceDIte, reduceIte, reduceCtorEq, Bool.or_false, Bool.true_or, Bool.and_false, Bool.false_and, Bool.not_true, Bool.not_false, Option.isSome_some, Option.isSome_none, Option.getD_some, List.getElem?_cons_zero, List.getElem?_cons_succ, eq_self, and_self, List.take_succ_cons, List.take_zero, List.drop_succ_cons, List.drop_zero]
  refine brB_intro (fun h2 => ?_) (fun h2 => retN [16] rfl ?_)
  · have h2 := of_decide_eq_true h2
    have hw1 : w64 ((i : Int) + 1) = ((i + 1 : Nat) : Int) := w64_s (n := n) (by omega) (by omega)
    refine ⟨⟨by omega, by omega, trivial⟩, ?_⟩
    refine loop_okF (T := tab [c_chords, c_cross]) [0, 3, 4, 5, 6, 11, 12, 17, 18] [(16, 16), (17, 272)] (fun k : Nat => ⟨35, [(0, ri w), (3, vi n), (4, ow 16), (5, vi i), (6, ow 17), (11, vi n), (12, vi i), (17, vi n), (18, vi k)], [(16, .drow 26 (.sl 2 (.int .i64)) (crRows w n i)), (17, rwi ((List.range n).map (midY (crI w i) k)))]⟩)
      (fun k => k ≤ n) (fun k => n - k) 0 rfl (by rw [← midY_0]; rfl) (Nat.zero_le _) (fun k hk => ?_)
    simp only [go_sem, ↓brB_t, ↓brB_f, Nat.reduceAdd, Int.reduceLE, Int.reduceLT, Int.reduceNeg, decide_true, decide_false, Bool.and_self, Nat.succ_eq_add_one, Int.toNat_natCast, Nat.beq_refl, Bool.and_true, Bool.true_and, Bool.false_or, Bool.or_true, List.all_cons, List.all_nil, Nat.reduceMul, Nat.add_zero, Nat.zero_add, List.length_nil, List.length_cons, dite_true, List.nil_append, Nat.reduceBEq, reduceDIte, reduceIte, reduceCtorEq, Bool.or_false, Bool.true_or, Bool.and_false, Bool.false_and, Bool.not_true, Bool.not_false, Option.isSome_some, Option.isSome_none, Option.getD_some, List.getElem?_cons_zero, List.getElem?_cons_succ, eq_self, and_self, List.take_succ_cons, List.take_zero, List.drop_succ_cons, List.drop_zero]
    rw [List.length_map, List.length_range]
    refine brB_intro (fun h3 => ?_) (fun h3 => ?_)
    · have h3 := of_decide_eq_true h3
      have hk1 : w64 ((k : Int) + 1) = ((k + 1 : Nat) : Int) := w64_s (n := n) (by omega) (by omega)
      rw [hk1]
      refine ⟨⟨by omega, two i (by omega), two k (by omega)⟩, brB_intro (fun h5 => ?_) (fun h5 => ?_)⟩
      · have e : crI w i k = 1 := by rw [crI, h5]; rfl
        rw [midY_1 e]
        exact ⟨⟨by omega, by omega⟩, k + 1, [(16, 16), (17, 17)], by omega, by omega, rfl, rfl⟩
      · have e : crI w i k = 0 := by rw [crI, h5]; rfl
        rw [midY_2 e]
        exact ⟨k + 1, [(16, 16), (17, 17)], by omega, by omega, rfl, rfl⟩
    · have h3 := of_decide_eq_false h3
      have e : k = n := by omega
      subst e
      rw [midY_end, hw1, show crRows w k i ++ [List.map (crI w i) (List.range k)] = crRows w k (i + 1) by rw [crRows, crRows, List.range_succ, List.map_append]; rfl]
      exact ⟨by rw [crRows, List.length_map, List.length_range]; omega, i + 1, [(16, 528)], by omega, by omega, rfl, rfl⟩
  · have h2 := of_decide_eq_false h2
    have e : i = n := by omega
    rw [e]; exact hK
def c_rows : Ctr Tryz.prog := ⟨168, ent Tryz.func168 rfl rfl, [], sp_rows, good_rows, []⟩
@[go_sem] theorem c_rows_f : c_rows.f = 168 := rfl
@[go_sem] theorem c_rows_ms : c_rows.ms = [] := rfl
@[go_sem] theorem c_rows_sp : c_rows.spec = sp_rows := rfl
@[go_sem] theorem c_rows_fz : c_rows.fz = [] := rfl
attribute [go_sem] sp_rows
end Go.Proofs.YthfmlelodmcgkaaGreat.V
end
section
namespace Go.Proofs.YthfmlelodmcgkaaGreat.V
open Go
def sumI : List Int → Int
  | [] => 0
  | x :: l => x + sumI l
theorem sumI_app : ∀ (a b : List Int), sumI (a ++ b) = sumI a + sumI b
  | [], b => (Int.zero_add _).symm
  | x :: a, b => by rw [List.cons_append, sumI, sumI, sumI_app a b, Int.add_assoc]
theorem sumI_s {l : List Int} {i : Nat} (h : i < l.length) : sumI (l.take (i + 1)) = sumI (l.take i) + l.getD i 0 := by
  have e : l.getD i 0 = l[i] := by rw [List.getD_eq_getElem?_getD, List.getElem?_eq_getElem h]; rfl
  rw [List.take_succ_eq_append_getElem h, sumI_app, e]
  show _ + (l[i] + 0) = _
  rw [Int.add_zero]
theorem sumI_r : ∀ {l : List Int}, (∀ x ∈ l, 0 ≤ x ∧ x ≤ 1) → 0 ≤ sumI l ∧ sumI l ≤ l.length
  | [], _ => ⟨Int.le_refl 0, Int.le_refl 0⟩
  | x :: l, h => by
    have := sumI_r (l := l) fun y hy => h y (List.mem_cons_of_mem _ hy)
    have := h x List.mem_cons_self
    show 0 ≤ x + sumI l ∧ x + sumI l ≤ ((l.length + 1 : Nat) : Int)
    omega
def okSq (rows : List (List Int)) : Prop := rows.length ≤ 1000 ∧ ∀ r ∈ rows, r.length = rows.length ∧ ∀ x ∈ r, 0 ≤ x ∧ x ≤ 1
def degL (rows : List (List Int)) : List Int := rows.map sumI
theorem degL_s {rows : List (List Int)} {i : Nat} (h : i < rows.length) : degL (rows.take (i + 1)) = degL (rows.take i) ++ [sumI (rows.getD i [])] := by
  have e : rows.getD i [] = rows[i] := by rw [List.getD_eq_getElem?_getD, List.getElem?_eq_getElem h]; rfl
  rw [degL, List.take_succ_eq_append_getElem h, List.map_append, e]; rfl
theorem degL_len (rows : List (List Int)) (i : Nat) : (degL (rows.take i)).length ≤ rows.length := by rw [degL, List.length_map, List.length_take]; omega
theorem rowM {rows : List (List Int)} {i : Nat} (h : i < rows.length) : rows.getD i [] ∈ rows := by rw [List.getD_eq_getElem?_getD, List.getElem?_eq_getElem h]; exact List.getElem_mem _
theorem cr_sq {w : List Int} (h : w.length ≤ 12) : okSq (crRows w (w.length / 2) (w.length / 2)) := by
  have hl : (crRows w (w.length / 2) (w.length / 2)).length = w.length / 2 := by rw [crRows, List.length_map, List.length_range]
  refine ⟨by omega, fun r hr => ?_⟩
  rw [hl]
  obtain ⟨i, _, rfl⟩ := List.mem_map.1 hr
  refine ⟨by rw [crRow, List.length_map, List.length_range], fun x hx => ?_⟩
  obtain ⟨k, _, rfl⟩ := List.mem_map.1 hx
  unfold crI
  split <;> omega
def sp_degS : List Cv → List Obj' → Tree
  | [.one (.ro (.sl 2 (.int .i64)) rows)], [] => .need (okSq rows) (.ret (ow 0) [rwi (degL rows)])
  | _, _ => .fail
set_option maxHeartbeats 4000000 in
set_option maxRecDepth 100000 in
theorem good_degS : Good Tryz.prog 102 sp_degS := by
  refine good_ofF Tryz.func102 rfl _ rfl _ rfl (tab []) (fun X cs os0 K hok hos hK => ?_)
  clear hos; unfold sp_degS at hK
  split at hK
  case h_2 => exact hK.elim
  rename_i rows
  refine ⟨by simp, by simp, ?_⟩
  simp only [go_sem] at hK hok
  simp (maxSteps := 4000000) only [go_sem, Tryz.f102, ↓brB_t, ↓brB_f, Nat.reduceAdd, Int.reduceLE, Int.reduceLT, Int.reduceNeg, decide_true, decide_false, Bool.and_self, Nat.succ_eq_add_one, Int.toNat_natCast, Nat.beq_refl, Bool.and_true, Bool.true_and, Bool.false_or, Bool.or_true, List.all_cons, List.all_nil, Nat.reduceMul, Nat.add_zero, Nat.zero_add, List.length_nil, List.length_cons, dite_true, List.nil_append, Nat.reduceBEq, reduceDIte, reduceIte, reduceCtorEq, Bool.or_false, Bool.true_or, Bool.and_false, Bool.false_and, Bool.not_true, Bool.not_false, Option.isSome_some, Option.isSome_none, Option.getD_some, List.getElem?_cons_zero, List.getElem?_cons_succ, eq_self, and_self, List.take_succ_cons, List.take_zero, List.drop_succ_cons, List.drop_zero]
  obtain ⟨⟨hn, hq⟩, hK⟩ := hK
  clear hok
  refine loop_okF (T := tab []) [0, 3, 4] [(16, 128)] (fun i : Nat => ⟨34, [(0, .val (.one (.ro kR rows))), (3, ow 16), (4, vi i)], [(16, rwi (degL ((rows : List (List Int)).take i)))]⟩)
    (fun i => i ≤ rows.length) (fun i => rows.length - i) 0 rfl rfl (Nat.zero_le _) (fun i hi => ?_)
  simp only [go_sem, ↓brB_t, ↓brB_f, Nat.reduceAdd, Int.reduceLE, Int.reduceLT, Int.reduceNeg, decide_true, decide_false, Bool.and_self, Nat.succ_eq_add_one, Int.toNat_natCast, Nat.beq_refl, Bool.and_true, Bool.true_and, Bool.false_or, Bool.or_true, List.all_cons, List.all_nil, Nat.reduceMul, Nat.add_zero, Nat.zero_add, List.length_nil, List.length_cons, dite_true, List.nil_append, Nat.reduceBEq, reduceDIte, reduceIte, reduceCtorEq, Bool.or_false, Bool.true_or, Bool.and_false, Bool.false_and, Bool.not_true, Bool.not_false, Option.isSome_some, Option.isSome_none, Option.getD_some, List.getElem?_cons_zero, List.getElem?_cons_succ, eq_self, and_self, List.take_succ_cons, List.take_zero, List.drop_succ_cons, List.drop_zero]
  refine brB_intro (fun h1 => ?_) (fun h1 => retN [16] rfl ?_)
  · have h1 := of_decide_eq_true h1
    have hil : i < rows.length := by omega
    have hw1 : w64 ((i : Int) + 1) = ((i + 1 : Nat) : Int) := w64_id (by omega) (by omega)
    obtain ⟨hR, hx⟩ := hq _ (rowM hil)
    have hs := degL_s hil
    have hdl := degL_len rows i
    refine loop_okF (T := tab []) [0, 3, 4, 5, 6] [(16, 16)] (fun k : Nat => ⟨34, [(0, .val (.one (.ro kR rows))), (3, ow 16), (4, vi i), (5, vi (sumI (((rows : List (List Int)).getD i []).take k))), (6, vi k)], [(16, rwi (degL ((rows : List (List Int)).take i)))]⟩)
      (fun k => k ≤ rows.length) (fun k => rows.length - k) 0 rfl rfl (Nat.zero_le _) (fun k hk => ?_)
    simp only [go_sem, ↓brB_t, ↓brB_f, Nat.reduceAdd, Int.reduceLE, Int.reduceLT, Int.reduceNeg, decide_true, decide_false, Bool.and_self, Nat.succ_eq_add_one, Int.toNat_natCast, Nat.beq_refl, Bool.and_true, Bool.true_and, Bool.false_or, Bool.or_true, List.all_cons, List.all_nil, Nat.reduceMul, Nat.add_zero, Nat.zero_add, List.length_nil, List.length_cons, dite_true, List.nil_append, Nat.reduceBEq, reduceDIte, reduceIte, reduceCtorEq, Bool.or_false, Bool.true_or, Bool.and_false, Bool.false_and, Bool.not_true, Bool.not_false, Option.isSome_some, Option.isSome_none, Option.getD_some, List.getElem?_cons_zero, List.getElem?_cons_succ, eq_self, and_self, List.take_succ_cons, List.take_zero, List.drop_succ_cons, List.drop_zero]
    generalize (rows : List (List Int)).getD i [] = R at *
    have hr := sumI_r (l := R.take k) fun x h => hx x (List.mem_of_mem_take h)
    rw [List.length_take] at hr
    refine brB_intro (fun h2 => ?_) (fun h2 => ?_)
    · have h2 := of_decide_eq_true h2
      have hk1 : w64 ((k : Int) + 1) = ((k + 1 : Nat) : Int) := w64_id (by omega) (by omega)
      have hks := sumI_s (l := R) (i := k) (by omega)
      have hg := hx (R.getD k 0) (by rw [List.getD_eq_getElem?_getD, List.getElem?_eq_getElem (by omega)]; exact List.getElem_mem _)
      have hw2 : w64 (sumI (R.take k) + R.getD k 0) = sumI (R.take (k + 1)) := by rw [hks]; exact w64_id (by omega) (by omega)
      exact ⟨⟨by omega, by omega⟩, ⟨by omega, by omega⟩, k + 1, [(16, 16)], by omega, by omega, rfl, by rw [hk1, hw2]; rfl⟩
    · have h2 := of_decide_eq_false h2
      have e : k = R.length := by omega
      rw [e, List.take_length]
      exact ⟨by omega, i + 1, [(16, 528)], by omega, by omega, rfl, by rw [hw1, hs]; rfl⟩
  · have h1 := of_decide_eq_false h1
    have e : i = rows.length := by omega
    rw [e, List.take_length]; exact hK
def c_degS : Ctr Tryz.prog := ⟨102, ent Tryz.func102 rfl rfl, [], sp_degS, good_degS, []⟩
@[go_sem] theorem c_degS_f : c_degS.f = 102 := rfl
@[go_sem] theorem c_degS_ms : c_degS.ms = [] := rfl
@[go_sem] theorem c_degS_sp : c_degS.spec = sp_degS := rfl
@[go_sem] theorem c_degS_fz : c_degS.fz = [] := rfl
attribute [go_sem] sp_degS
def sp_degI : List Cv → List Obj' → Tree
  | [.one (.ro (.int .i64) w)], [] => .need (isW w = true) (.ret (ow 0) [rwi (degL (crRows w (w.length / 2) (w.length / 2)))])
  | _, _ => .fail
set_option maxHeartbeats 4000000 in
set_option maxRecDepth 100000 in
theorem good_degI : Good Tryz.prog 151 sp_degI := by
  refine good_ofF Tryz.func151 rfl _ rfl _ rfl (tab [c_rows]) (fun X cs os0 K hok hos hK => ?_)
  clear hos; unfold sp_degI at hK
  split at hK
  case h_2 => exact hK.elim
  rename_i w
  refine ⟨by simp, by simp, ?_⟩
  simp only [go_sem] at hK hok
  simp (maxSteps := 4000000) only [go_sem, Tryz.f151, ↓brB_t, ↓brB_f, Nat.reduceAdd, Int.reduceLE, Int.reduceLT, Int.reduceNeg, decide_true, decide_false, Bool.and_self, Nat.succ_eq_add_one, Int.toNat_natCast, Nat.beq_refl, Bool.and_true, Bool.true_and, Bool.false_or, Bool.or_true, List.all_cons, List.all_nil, Nat.reduceMul, Nat.add_zero, Nat.zero_add, List.length_nil, List.length_cons, dite_true, List.nil_append, Nat.reduceBEq, reduceDIte, reduceIte, reduceCtorEq, Bool.or_false, Bool.true_or, Bool.and_false, Bool.false_and, Bool.not_true, Bool.not_false, Option.isSome_some, Option.isSome_none, Option.getD_some, List.getElem?_cons_zero, List.getElem?_cons_succ, eq_self, and_self, List.take_succ_cons, List.take_zero, List.drop_succ_cons, List.drop_zero]
  obtain ⟨hw, hK⟩ := hK
  clear hok
  have hq := cr_sq (y_len hw)
  refine ⟨hw, ?_⟩
  generalize crRows w (w.length / 2) (w.length / 2) = rows at *
  obtain ⟨hn, hq⟩ := hq
  refine loop_okF (T := tab [c_rows]) [3, 11, 12, 13] [(16, 160)] (fun i : Nat => ⟨33, [(3, ow 16), (11, .val (.one (.ro kR rows))), (12, vi rows.length), (13, vi i)], [(16, rwi (degL ((rows : List (List Int)).take i)))]⟩)
    (fun i => i ≤ rows.length) (fun i => rows.length - i) 0 rfl rfl (Nat.zero_le _) (fun i hi => ?_)
  simp only [go_sem, ↓brB_t, ↓brB_f, Nat.reduceAdd, Int.reduceLE, Int.reduceLT, Int.reduceNeg, decide_true, decide_false, Bool.and_self, Nat.succ_eq_add_one, Int.toNat_natCast, Nat.beq_refl, Bool.and_true, Bool.true_and, Bool.false_or, Bool.or_true, List.all_cons, List.all_nil, Nat.reduceMul, Nat.add_zero, Nat.zero_add, List.length_nil, List.length_cons, dite_true, List.nil_append, Nat.reduceBEq, reduceDIte, reduceIte, reduceCtorEq, Bool.or_false, Bool.true_or, Bool.and_false, Bool.false_and, Bool.not_true, Bool.not_false, Option.isSome_some, Option.isSome_none, Option.getD_some, List.getElem?_cons_zero, List.getElem?_cons_succ, eq_self, and_self, List.take_succ_cons, List.take_zero, List.drop_succ_cons, List.drop_zero]
  refine brB_intro (fun h1 => ?_) (fun h1 => retN [16] rfl ?_)
  · have h1 := of_decide_eq_true h1
    have hil : i < rows.length := by omega
    have hw1 : w64 ((i : Int) + 1) = ((i + 1 : Nat) : Int) := w64_id (by omega) (by omega)
    obtain ⟨hR, hx⟩ := hq _ (rowM hil)
    have hs := degL_s hil
    have hdl := degL_len rows i
    refine ⟨⟨by omega, by omega⟩, ?_⟩
    refine loop_okF (T := tab [c_rows]) [3, 6, 11, 12, 13, 17, 18, 19] [(16, 16)] (fun k : Nat => ⟨33, [(3, ow 16), (6, vi (sumI (((rows : List (List Int)).getD i []).take k))), (11, .val (.one (.ro kR rows))), (12, vi rows.length), (13, vi i), (17, ri ((rows : List (List Int)).getD i [])), (18, vi ((rows : List (List Int)).getD i []).length), (19, vi k)], [(16, rwi (degL ((rows : List (List Int)).take i)))]⟩)
      (fun k => k ≤ rows.length) (fun k => rows.length - k) 0 rfl rfl (Nat.zero_le _) (fun k hk => ?_)
    simp only [go_sem, ↓brB_t, ↓brB_f, Nat.reduceAdd, Int.reduceLE, Int.reduceLT, Int.reduceNeg, decide_true, decide_false, Bool.and_self, Nat.succ_eq_add_one, Int.toNat_natCast, Nat.beq_refl, Bool.and_true, Bool.true_and, Bool.false_or, Bool.or_true, List.all_cons, List.all_nil, Nat.reduceMul, Nat.add_zero, Nat.zero_add, List.length_nil, List.length_cons, dite_true, List.nil_append, Nat.reduceBEq, reduceDIte, reduceIte, reduceCtorEq, Bool.or_false, Bool.true_or, Bool.and_false, Bool.false_and, Bool.not_true, Bool.not_false, Option.isSome_some, Option.isSome_none, Option.getD_some, List.getElem?_cons_zero, List.getElem?_cons_succ, eq_self, and_self, List.take_succ_cons, List.take_zero, List.drop_succ_cons, List.drop_zero]
    generalize (rows : List (List Int)).getD i [] = R at *
    have hr := sumI_r (l := R.take k) fun x h => hx x (List.mem_of_mem_take h)
    rw [List.length_take] at hr
    refine brB_intro (fun h2 => ?_) (fun h2 => ?_)
    · have h2 := of_decide_eq_true h2
      have hk1 : w64 ((k : Int) + 1) = ((k + 1 : Nat) : Int) := w64_id (by omega) (by omega)
      have hks := sumI_s (l := R) (i := k) (by omega)
      have hg := hx (R.getD k 0) (by rw [List.getD_eq_getElem?_getD, List.getElem?_eq_getElem (by omega)]; exact List.getElem_mem _)
      have hw2 : w64 (sumI (R.take k) + R.getD k 0) = sumI (R.take (k + 1)) := by rw [hks]; exact w64_id (by omega) (by omega)
      exact ⟨⟨by omega, by omega⟩, k + 1, [(16, 16)], by omega, by omega, rfl, by rw [hk1, hw2]; rfl⟩
    · have h2 := of_decide_eq_false h2
      have e : k = R.length := by omega
      rw [e, List.take_length]
      exact ⟨by omega, i + 1, [(16, 496)], by omega, by omega, rfl, by rw [hw1, hs]; rfl⟩
  · have h1 := of_decide_eq_false h1
    have e : i = rows.length := by omega
    rw [e, List.take_length]; exact hK
def c_degI : Ctr Tryz.prog := ⟨151, ent Tryz.func151 rfl rfl, [], sp_degI, good_degI, []⟩
@[go_sem] theorem c_degI_f : c_degI.f = 151 := rfl
@[go_sem] theorem c_degI_ms : c_degI.ms = [] := rfl
@[go_sem] theorem c_degI_sp : c_degI.spec = sp_degI := rfl
@[go_sem] theorem c_degI_fz : c_degI.fz = [] := rfl
attribute [go_sem] sp_degI
def zerT (l : List Int) (n : Nat) : List Int := ((List.range n).filter fun i => decide (l.getD i 0 = 0)).map fun i : Nat => (i : Int)
def zerL (l : List Int) : List Int := zerT l l.length
theorem zerT_s (l : List Int) (n : Nat) : zerT l (n + 1) = zerT l n ++ if l.getD n 0 = 0 then [(n : Int)] else [] := by
  rw [zerT, List.range_succ, List.filter_append, List.map_append]
  by_cases h : l.getD n 0 = 0
  · rw [if_pos h, List.filter_cons_of_pos (by rw [decide_eq_true h])]; rfl
  · rw [if_neg h, List.filter_cons_of_neg (by rw [decide_eq_false h]; decide)]; rfl
theorem zerT_len (l : List Int) (n : Nat) : (zerT l n).length ≤ n := by
  rw [zerT, List.length_map]
  exact Nat.le_trans (List.length_filter_le _ _) (by rw [List.length_range]; exact Nat.le_refl n)
def sp_isoI : List Cv → List Obj' → Tree
  | [.one (.ro (.int .i64) w)], [] => .need (isW w = true) (.ret (ow 0) [rwi (zerL (degL (crRows w (w.length / 2) (w.length / 2))))])
  | _, _ => .fail
set_option maxHeartbeats 4000000 in
set_option maxRecDepth 100000 in
theorem good_isoI : Good Tryz.prog 107 sp_isoI := by
  refine good_ofF Tryz.func107 rfl _ rfl _ rfl (tab [c_degI]) (fun X cs os0 K hok hos hK => ?_)
  clear hos; unfold sp_isoI at hK
  split at hK
  case h_2 => exact hK.elim
  rename_i w
  refine ⟨by simp, by simp, ?_⟩
  simp only [go_sem] at hK hok
  simp (maxSteps := 4000000) only [go_sem, Tryz.f107, ↓brB_t, ↓brB_f, Nat.reduceAdd, Int.reduceLE, Int.reduceLT, Int.reduceNeg, decide_true, decide_false, Bool.and_self, Nat.succ_eq_add_one, Int.toNat_natCast, Nat.beq_refl, Bool.and_true, Bool.true_and, Bool.false_or, Bool.or_true, List.all_cons, List.all_nil, Nat.reduceMul, Nat.add_zero, Nat.zero_add, List.length_nil, List.length_cons, dite_true, List.nil_append, Nat.reduceBEq, reduceDIte, reduceIte, reduceCtorEq, Bool.or_false, Bool.true_or, Bool.and_false, Bool.false_and, Bool.not_true, Bool.not_false, Option.isSome_some, Option.isSome_none, Option.getD_some, List.getElem?_cons_zero, List.getElem?_cons_succ, eq_self, and_self, List.take_succ_cons, List.take_zero, List.drop_succ_cons, List.drop_zero]
  obtain ⟨hw, hK⟩ := hK
  clear hok
  refine ⟨hw, ?_⟩
  have hdl := degL_len (crRows w (w.length / 2) (w.length / 2)) (crRows w (w.length / 2) (w.length / 2)).length
  rw [List.take_length] at hdl
  have hql := (cr_sq (y_len hw)).1
  generalize degL (crRows w (w.length / 2) (w.length / 2)) = d at *
  refine loop_okF (T := tab [c_degI]) [3, 8, 9, 10] [(16, 112)] (fun i : Nat => ⟨23, [(3, ow 16), (8, ri d), (9, vi d.length), (10, vi i)], [(16, rwi (zerT d i))]⟩)
    (fun i => i ≤ d.length) (fun i => d.length - i) 0 rfl rfl (Nat.zero_le _) (fun i hi => ?_)
  simp only [go_sem, ↓brB_t, ↓brB_f, Nat.reduceAdd, Int.reduceLE, Int.reduceLT, Int.reduceNeg, decide_true, decide_false, Bool.and_self, Nat.succ_eq_add_one, Int.toNat_natCast, Nat.beq_refl, Bool.and_true, Bool.true_and, Bool.false_or, Bool.or_true, List.all_cons, List.all_nil, Nat.reduceMul, Nat.add_zero, Nat.zero_add, List.length_nil, List.length_cons, dite_true, List.nil_append, Nat.reduceBEq, reduceDIte, reduceIte, reduceCtorEq, Bool.or_false, Bool.true_or, Bool.and_false, Bool.false_and, Bool.not_true, Bool.not_false, Option.isSome_some, Option.isSome_none, Option.getD_some, List.getElem?_cons_zero, List.getElem?_cons_succ, eq_self, and_self, List.take_succ_cons, List.take_zero, List.drop_succ_cons, List.drop_zero]
  have hs := zerT_s d i
  have hzl := zerT_len d i
  refine brB_intro (fun h1 => ?_) (fun h1 => retN [16] rfl ?_)
  · have h1 := of_decide_eq_true h1
    have hw1 : w64 ((i : Int) + 1) = ((i + 1 : Nat) : Int) := w64_id (by omega) (by omega)
    refine ⟨⟨by omega, by omega⟩, brB_intro (fun h2 => ?_) (fun h2 => ?_)⟩
    · rw [if_pos (of_decide_eq_true h2)] at hs
      exact ⟨by omega, i + 1, [(16, 336)], by omega, by omega, rfl, by rw [hw1, hs]; rfl⟩
    · rw [if_neg (of_decide_eq_false h2), List.append_nil] at hs
      exact ⟨i + 1, [(16, 16)], by omega, by omega, rfl, by rw [hw1, hs]; rfl⟩
  · have h1 := of_decide_eq_false h1
    have e : i = d.length := by omega
    rw [e]; exact hK
def c_isoI : Ctr Tryz.prog := ⟨107, ent Tryz.func107 rfl rfl, [], sp_isoI, good_isoI, []⟩
@[go_sem] theorem c_isoI_f : c_isoI.f = 107 := rfl
@[go_sem] theorem c_isoI_ms : c_isoI.ms = [] := rfl
@[go_sem] theorem c_isoI_sp : c_isoI.spec = sp_isoI := rfl
@[go_sem] theorem c_isoI_fz : c_isoI.fz = [] := rfl
attribute [go_sem] sp_isoI
end Go.Proofs.YthfmlelodmcgkaaGreat.V
end
section
namespace Go.Proofs.YthfmlelodmcgkaaGreat.V
open Go
theorem all3_len : ∀ n, n ≤ 3 → (allL n).length ≤ 15
  | 0, _ => by decide +kernel
  | 1, _ => by decide +kernel
  | 2, _ => by decide +kernel
  | 3, _ => by decide +kernel
  | n + 4, h => by omega
theorem dia4_len : ∀ n, n ≤ 4 → (diaL n).length ≤ 18
  | 0, _ => by decide +kernel
  | 1, _ => by decide +kernel
  | 2, _ => by decide +kernel
  | 3, _ => by decide +kernel
  | 4, _ => by decide +kernel
  | n + 5, h => by omega
def relRow (p : Int) (n : Nat) (w : List Int) (i x : Nat) : List Int := rowD (cirR p (jS p (fourT w (i : Int) (x : Int) 1 (p - 1) 4))) (diaL n)
def rowsX (p : Int) (n : Nat) (w : List Int) (i m : Nat) : LL := (List.range m).map (relRow p n w i)
def rowsI (p : Int) (n : Nat) (w : List Int) (m : Nat) : LL := (List.range m).flatMap fun i => rowsX p n w i (2 * n - 1)
def rowsW (p : Int) (n : Nat) (ws : LL) : LL := ws.flatMap fun w => rowsI p n w (n - 1)
theorem rowsX_s (p : Int) (n : Nat) (w : List Int) (i m : Nat) : rowsX p n w i (m + 1) = rowsX p n w i m ++ [relRow p n w i m] := by rw [rowsX, List.range_succ, List.map_append]; rfl
theorem rowsI_s (p : Int) (n : Nat) (w : List Int) (m : Nat) : rowsI p n w (m + 1) = rowsI p n w m ++ rowsX p n w m (2 * n - 1) := by rw [rowsI, List.range_succ, List.flatMap_append]; simp [rowsI]
theorem rowsW_s (p : Int) (n : Nat) {ws : LL} {i : Nat} (h : i < ws.length) : rowsW p n (ws.take (i + 1)) = rowsW p n (ws.take i) ++ rowsI p n (ws.getD i []) (n - 1) := by
  rw [rowsW, List.take_succ_eq_append_getElem h, List.flatMap_append, ← getR_lt h]; simp [rowsW]
theorem rowsX_len (p : Int) (n : Nat) (w : List Int) (i m : Nat) : (rowsX p n w i m).length = m := by rw [rowsX, List.length_map, List.length_range]
theorem rowsI_len (p : Int) (n : Nat) (w : List Int) (m : Nat) : (rowsI p n w m).length = m * (2 * n - 1) := by
  induction m with
  | zero => rw [Nat.zero_mul]; rfl
  | succ m ih => rw [rowsI_s, List.length_append, ih, rowsX_len, Nat.succ_mul m]
theorem rowsW_len (p : Int) (n : Nat) (ws : LL) : (rowsW p n ws).length = ws.length * ((n - 1) * (2 * n - 1)) := by
  induction ws with
  | nil => rw [List.length_nil, Nat.zero_mul]; rfl
  | cons w ws ih => rw [rowsW, List.flatMap_cons, List.length_append, rowsI_len, List.length_cons, Nat.succ_mul ws.length]; rw [rowsW] at ih; rw [ih]; omega
def isoB (w : List Int) : Bool := decide (0 < (zerL (degL (crRows w (w.length / 2) (w.length / 2)))).length)
def unitR (m k : Nat) : List Int := (List.replicate m 0).set k 1
def rowsF (n m : Nat) : LL := (List.range m).flatMap fun k => if isoB ((diaL n).getD k []) then [unitR (diaL n).length k] else []
theorem rowsF_s (n m : Nat) : rowsF n (m + 1) = rowsF n m ++ if isoB ((diaL n).getD m []) then [unitR (diaL n).length m] else [] := by rw [rowsF, List.range_succ, List.flatMap_append]; simp [rowsF]
theorem rowsF_len (n m : Nat) : (rowsF n m).length ≤ m := by
  induction m with
  | zero => exact Nat.le_refl 0
  | succ m ih =>
    rw [rowsF_s, List.length_append]
    split
    · simp; omega
    · simp; omega
def relRows (p : Int) (n : Nat) (free : Bool) : LL := rowsW p n (if 1 < n then allL (n - 1) else []) ++ if free then rowsF n (diaL n).length else []
theorem four_ok {p : Int} (h2 : 2 ≤ p) (hp : p ≤ 13) {w : List Int} (hw : isW w = true) (hl : w.length ≤ 10) {i x : Int} (h0 : 0 ≤ i) (h1 : i < ((w.length / 2 : Nat) : Int)) (h3 : 0 ≤ x) (h4 : x ≤ (w.length : Int)) : okT p (jS p (fourT w i x 1 (p - 1) 4)) := by
  have hm := fourT_sm hw h0 h1 h3 h4 (s := 1) (t := p - 1) 4
  have hwd : ∀ y ∈ fourT w i x 1 (p - 1) 4, isW y.1 = true := fun y hy => by
    obtain ⟨j, _, rfl⟩ := List.mem_map.1 hy
    have he := (ends_in hw h0 h1).2.2 j
    have hm := mn_mx h3 h4 he.1 he.2
    exact addL_isW hw (by omega) (by omega) hl
  have hs := jS_rep p (fourT w i x 1 (p - 1) 4) fun y hy => (hm y hy).1
  refine ⟨⟨h2, hp⟩, ?_, fun y hy => ⟨jS_q (q := fun u => isW u = true) hwd y hy, ?_⟩⟩
  · have := jS_len p (fourT w i x 1 (p - 1) 4)
    have e : (fourT w i x 1 (p - 1) 4).length = 4 := by simp [fourT]
    omega
  · have := ((hs.mem y).1 hy).2.1
    rw [this, cF_val (by omega) (by omega) (fourT w i x 1 (p - 1) 4) _ (fun y hy => by have := (hm y hy).2; omega) (fun _ => ⟨Int.le_refl 0, by omega⟩)]
    have a := Int.emod_nonneg (0 + wS (fourT w i x 1 (p - 1) 4) y.1) (show p ≠ 0 by omega)
    have b := Int.emod_lt_of_pos (0 + wS (fourT w i x 1 (p - 1) 4) y.1) (show 0 < p by omega)
    omega
theorem relRow_ok {p : Int} (h2 : 2 ≤ p) (hp : p ≤ 13) {n : Nat} (hn : n ≤ 4) {w : List Int} (hw : isW w = true) (hl : w.length + 2 = 2 * n) {i x : Nat} (hi : i + 1 < n) (hx : x ≤ 2 * n - 2) : okRow p (diaL n).length (relRow p n w i x) := by
  have h := four_ok h2 hp hw (by omega) (i := (i : Int)) (x := (x : Int)) (by omega) (by omega) (by omega) (by omega)
  exact ⟨rowD_len _ _, row_vals h _⟩
theorem unitR_ok {p : Int} (h2 : 2 ≤ p) (m k : Nat) : okRow p m (unitR m k) := by
  refine ⟨by rw [unitR, List.length_set, List.length_replicate], fun x hx => ?_⟩
  rcases List.mem_or_eq_of_mem_set hx with h | h
  · rw [List.eq_of_mem_replicate h]; omega
  · rw [h]; omega
theorem rowsW_ok {p : Int} (h2 : 2 ≤ p) (hp : p ≤ 13) {n : Nat} (hn : n ≤ 4) (h1 : 1 ≤ n) {ws : LL} (h : ∀ w ∈ ws, w ∈ allL (n - 1)) : ∀ v ∈ rowsW p n ws, okRow p (diaL n).length v := fun v hv => by
  obtain ⟨w, hw, hv⟩ := List.mem_flatMap.1 hv
  obtain ⟨i, hi, hv⟩ := List.mem_flatMap.1 hv
  obtain ⟨x, hx, rfl⟩ := List.mem_map.1 hv
  have := all_isW (show n - 1 ≤ 6 by omega) (h w hw)
  have hi := List.mem_range.1 hi
  have hx := List.mem_range.1 hx
  exact relRow_ok h2 hp hn this.1 (by omega) (by omega) (by omega)
theorem rowsF_ok {p : Int} (h2 : 2 ≤ p) (n m : Nat) : ∀ v ∈ rowsF n m, okRow p (diaL n).length v := fun v hv => by
  obtain ⟨k, _, hv⟩ := List.mem_flatMap.1 hv
  split at hv
  · rw [List.mem_singleton.1 hv]; exact unitR_ok h2 _ _
  · cases hv
theorem relRows_ok {p : Int} (h2 : 2 ≤ p) (hp : p ≤ 13) {n : Nat} (hn : n ≤ 4) (free : Bool) : ∀ v ∈ relRows p n free, okRow p (diaL n).length v := fun v hv => by
  rcases List.mem_append.1 hv with hv | hv
  · split at hv
    · exact rowsW_ok h2 hp hn (by omega) (fun _ h => h) v hv
    · cases hv
  · split at hv
    · exact rowsF_ok h2 _ _ v hv
    · cases hv
theorem wordsN_len {n : Nat} (hn : n ≤ 4) : (if 1 < n then allL (n - 1) else []).length ≤ 15 := by
  split
  · exact all3_len _ (by omega)
  · exact Nat.zero_le _
def relS (p : Int) (n : Nat) (free : Bool) : LL := putsS p (relRows p n free)
theorem sort_puts {p : Int} {m : Nat} (hp : primeB p = true) {l : LL} (h : ∀ v ∈ l, okRow p m v) : sortR (putsI p l) = putsS p l := by
  obtain ⟨h1, h2, h3⟩ := puts_pair hp h
  have hr := putsI_red hp h
  refine (sortR_eq (red_nodup hr) h3.symm ?_).symm
  refine h2.imp_of_mem fun {a b} ha hb hab => ?_
  have la := (red_lead h1 ha).1
  have lb := (red_lead h1 hb).1
  rw [fst_lead, fst_lead, leadI, leadI, if_pos la, if_pos lb]
  omega
theorem relS_red {p : Int} (hp : primeB p = true) {n : Nat} (hn : n ≤ 4) (free : Bool) : Red p (diaL n).length (relS p n free) ∧ upR (relS p n free) := by
  have h2 := primeB_r hp
  have := puts_pair hp (relRows_ok h2.1 h2.2 hn free)
  exact ⟨this.1, this.2.1⟩
theorem putsS_app (p : Int) (a b : LL) : putsS p (a ++ b) = b.foldl (putS (invF p) p) (putsS p a) := by rw [putsS, List.foldl_append]; rfl
theorem putsS_s (p : Int) (a : LL) (v : List Int) : putsS p (a ++ [v]) = putS (invF p) p (putsS p a) v := putsS_app p a [v]
theorem red_len {p : Int} {m : Nat} {L : LL} (h : Red p m L) (hu : upR L) : L.length ≤ m := by
  have key : ∀ (L : LL) (k : Nat), upR L → (∀ b ∈ L, k ≤ leadN b ∧ leadN b < m) → k + L.length ≤ m ∨ L = [] := fun L => by
    induction L with
    | nil => intro k _ _; exact .inr rfl
    | cons b L ih =>
      intro k hu hb
      left
      obtain ⟨u1, u2⟩ := List.pairwise_cons.1 hu
      have hb0 := hb b List.mem_cons_self
      rcases ih (leadN b + 1) u2 (fun c hc => ⟨u1 c hc, (hb c (List.mem_cons_of_mem _ hc)).2⟩) with h | h
      · rw [List.length_cons]; omega
      · rw [h]; simp; omega
  rcases key L 0 hu (fun b hb => ⟨Nat.zero_le _, (h.rows b hb).lead⟩) with h | h
  · omega
  · rw [h]; exact Nat.zero_le _
end Go.Proofs.YthfmlelodmcgkaaGreat.V
end
section
namespace Go.Proofs.YthfmlelodmcgkaaGreat.V
open Go
theorem br_join {P : Program} {X : Ctx} {C : Code} {Kf : Exit → S → Prop} {b : Bool} {A : Prop} {s1 s2 : S} (Q : S → Prop) (hA : b = true → A) (h1 : b = true → Q s1) (h2 : b = false → Q s2) (key : ∀ s, Q s → Holds P X C s Kf) : brB b (A ∧ Holds P X C s1 Kf) (Holds P X C s2 Kf) :=
  brB_intro (fun h => ⟨hA h, key _ (h1 h)⟩) (fun h => key _ (h2 h))
def st1 (p : Int) (N : Nat) (free : Bool) (W : LL) (k : Nat) : S := ⟨85, [(0, vi p), (1, vi N), (2, vb free), (7, ow 16), (24, .val (.one (.ro kR W))), (25, vi W.length), (26, vi k)], [(16, .drow tR kR (rowsW p N (W.take k)))]⟩
def st2 (p : Int) (N : Nat) (free : Bool) (W : LL) (k : Nat) (w : List Int) (m i : Nat) (D : LL) : S := ⟨85, [(0, vi p), (1, vi N), (2, vb free), (7, ow 16), (10, ri w), (24, .val (.one (.ro kR W))), (25, vi W.length), (26, vi k), (31, vi m), (32, vi i)], [(16, .drow tR kR D)]⟩
def st3 (p : Int) (N : Nat) (free : Bool) (W : LL) (k : Nat) (w : List Int) (m i q x : Nat) (D : LL) : S := ⟨85, [(0, vi p), (1, vi N), (2, vb free), (7, ow 16), (10, ri w), (11, vi i), (24, .val (.one (.ro kR W))), (25, vi W.length), (26, vi k), (31, vi m), (32, vi i), (37, vi q), (38, vi x)], [(16, .drow tR kR D)]⟩
def st4 (p : Int) (N : Nat) (free : Bool) (A : LL) (k : Nat) (D : LL) : S := ⟨85, [(0, vi p), (2, vb free), (7, ow 16), (13, .val (.one (.ro kR A))), (57, .val (.one (.ro kR A))), (58, vi A.length), (59, vi k)], [(16, .drow tR kR D)]⟩
def sp_rel : List Cv → List Obj' → Tree
  | [.one (.v (.int .i64 p)), .one (.v (.int .i64 n)), .one (.v (.bool free))], [] => .need (primeB p = true ∧ 0 ≤ n ∧ n ≤ 4) (.ret (ow 0) [.drow 26 (.sl 2 (.int .i64)) (relS p n.toNat free)])
  | _, _ => .fail
set_option maxHeartbeats 4000000 in
set_option maxRecDepth 100000 in
theorem good_rel : Good Tryz.prog 67 sp_rel := by
  refine good_ofF Tryz.func67 rfl _ rfl _ rfl (tab [c_words, c_fourI, c_circle, c_dRow, c_dias, c_isoI, c_reduced]) (fun X cs os0 K hok hos hK => ?_)
  clear hos; unfold sp_rel at hK
  split at hK
  case h_2 => exact hK.elim
  rename_i p n free
  refine ⟨by simp, by simp, ?_⟩
  simp only [go_sem] at hK hok
  simp (maxSteps := 4000000) only [go_sem, Tryz.f67, ↓brB_t, ↓brB_f, Nat.reduceAdd, Int.reduceLE, Int.reduceLT, Int.reduceNeg, decide_true, decide_false, Bool.and_self, Nat.succ_eq_add_one, Int.toNat_natCast, Nat.beq_refl, Bool.and_true, Bool.true_and, Bool.false_or, Bool.or_true, List.all_cons, List.all_nil, Nat.reduceMul, Nat.add_zero, Nat.zero_add, List.length_nil, List.length_cons, dite_true, List.nil_append, Nat.reduceBEq, reduceDIte, reduceIte, reduceCtorEq, Bool.or_false, Bool.true_or, Bool.and_false, Bool.false_and, Bool.not_true, Bool.not_false, Option.isSome_some, Option.isSome_none, Option.getD_some, List.getElem?_cons_zero, List.getElem?_cons_succ, eq_self, and_self, List.take_succ_cons, List.take_zero, List.drop_succ_cons, List.drop_zero]
  obtain ⟨⟨hp, h0, h4⟩, hK⟩ := hK
  clear hok
  have hp2 := primeB_r hp
  obtain ⟨N, rfl⟩ : ∃ N : Nat, n = N := ⟨n.toNat, by omega⟩
  rw [Int.toNat_natCast] at hK
  have hN : N ≤ 4 := by omega
  have hdl := dia4_len N hN
  have hro := relRows_ok hp2.1 hp2.2 hN free
  have hsp := sort_puts (m := (diaL N).length) hp (relRows_ok hp2.1 hp2.2 hN free)
  have hw0 : 1 < N → w64 ((N : Int) - 1) = ((N - 1 : Nat) : Int) := fun h => by rw [w64_id (by omega) (by omega)]; omega
  have hWl := wordsN_len hN
  have hWm : ∀ w ∈ (if 1 < N then allL (N - 1) else []), isW w = true ∧ w.length + 2 = 2 * N ∧ 1 < N := fun w hw => by
    split at hw
    · have := all_isW (show N - 1 ≤ 6 by omega) hw
      exact ⟨this.1, by omega, by assumption⟩
    · cases hw
  have hWi : 1 < N → (if 1 < N then allL (N - 1) else []) = allL (N - 1) := fun h => if_pos h
  have hWe : ¬ 1 < N → (if 1 < N then allL (N - 1) else []) = [] := fun h => if_neg h
  unfold relS relRows at hK
  unfold relRows at hsp hro
  generalize (if 1 < N then allL (N - 1) else []) = W at *
  refine br_join (fun s => ∃ ids, okN ids s.os = true ∧ reS ids [0, 1, 2, 7, 24, 25, 26] s = st1 p N free W 0) (fun h1 => ?_) (fun h1 => ⟨[(16, 288)], rfl, ?_⟩) (fun h1 => ⟨[(16, 288)], rfl, ?_⟩) (fun s hs => ?_)
  · have h1 := of_decide_eq_true h1
    rw [hw0 (by omega)]
    omega
  · have h1 := of_decide_eq_true h1
    rw [hw0 (by omega), Int.toNat_natCast, hWi (by omega)]; rfl
  · have h1 := of_decide_eq_false h1
    rw [hWe (by omega)]; rfl
  clear hw0 hWi hWe
  obtain ⟨ids, hs1, hs2⟩ := hs
  refine loop_okF (T := tab [c_words, c_fourI, c_circle, c_dRow, c_dias, c_isoI, c_reduced]) [0, 1, 2, 7, 24, 25, 26] ids (fun k : Nat => st1 p N free W k)
    (fun k => k ≤ W.length) (fun k => W.length - k) 0 hs1 hs2 (Nat.zero_le _) (fun k hk => ?_)
  clear hs1 hs2
  simp only [st1, go_sem, ↓brB_t, ↓brB_f, Nat.reduceAdd, Int.reduceLE, Int.reduceLT, Int.reduceNeg, decide_true, decide_false, Bool.and_self, Nat.succ_eq_add_one, Int.toNat_natCast, Nat.beq_refl, Bool.and_true, Bool.true_and, Bool.false_or, Bool.or_true, List.all_cons, List.all_nil, Nat.reduceMul, Nat.add_zero, Nat.zero_add, List.length_nil, List.length_cons, dite_true, List.nil_append, Nat.reduceBEq, reduceDIte, reduceIte, reduceCtorEq, Bool.or_false, Bool.true_or, Bool.and_false, Bool.false_and, Bool.not_true, Bool.not_false, Option.isSome_some, Option.isSome_none, Option.getD_some, List.getElem?_cons_zero, List.getElem?_cons_succ, eq_self, and_self, List.take_succ_cons, List.take_zero, List.drop_succ_cons, List.drop_zero]
  refine brB_intro (fun h1 => ?_) (fun h1 => ?_)
  · have h1 := of_decide_eq_true h1
    have hkl : k < W.length := by omega
    have hw1 : w64 ((k : Int) + 1) = ((k + 1 : Nat) : Int) := w64_id (by omega) (by omega)
    obtain ⟨g1, g2, g3⟩ := hWm _ (show W.getD k [] ∈ W by rw [getR_lt hkl]; exact List.getElem_mem _)
    have hs := rowsW_s p N hkl
    have hn1 : w64 ((N : Int) - 1) = ((N - 1 : Nat) : Int) := by rw [w64_id (by omega) (by omega)]; omega
    have hpl := rowsW_len p N (W.take k)
    rw [List.length_take, Nat.min_eq_left (by omega)] at hpl
    have hpl2 : (rowsW p N (W.take k)).length ≤ 15 * 21 := by
      rw [hpl]
      exact Nat.mul_le_mul (by omega) (Nat.le_trans (Nat.mul_le_mul (show N - 1 ≤ 3 by omega) (show 2 * N - 1 ≤ 7 by omega)) (by decide))
    generalize rowsW p N (W.take k) = D0 at *
    generalize W.getD k [] = w at *
    rw [hn1]
    refine ⟨⟨by omega, by omega⟩, ?_⟩
    refine loop_okF (T := tab [c_words, c_fourI, c_circle, c_dRow, c_dias, c_isoI, c_reduced]) [0, 1, 2, 7, 10, 24, 25, 26, 31, 32] [(16, 16)] (fun i : Nat => st2 p N free W k w (N - 1) i (D0 ++ rowsI p N w i))
      (fun i => i ≤ N - 1) (fun i => N - 1 - i) 0 rfl (by rw [show rowsI p N w 0 = [] from rfl, List.append_nil]; rfl) (Nat.zero_le _) (fun i hi => ?_)
    simp only [st2, go_sem, ↓brB_t, ↓brB_f, Nat.reduceAdd, Int.reduceLE, Int.reduceLT, Int.reduceNeg, decide_true, decide_false, Bool.and_self, Nat.succ_eq_add_one, Int.toNat_natCast, Nat.beq_refl, Bool.and_true, Bool.true_and, Bool.false_or, Bool.or_true, List.all_cons, List.all_nil, Nat.reduceMul, Nat.add_zero, Nat.zero_add, List.length_nil, List.length_cons, dite_true, List.nil_append, Nat.reduceBEq, reduceDIte, reduceIte, reduceCtorEq, Bool.or_false, Bool.true_or, Bool.and_false, Bool.false_and, Bool.not_true, Bool.not_false, Option.isSome_some, Option.isSome_none, Option.getD_some, List.getElem?_cons_zero, List.getElem?_cons_succ, eq_self, and_self, List.take_succ_cons, List.take_zero, List.drop_succ_cons, List.drop_zero]
    have hil := rowsI_len p N w i
    have hil2 : (rowsI p N w i).length ≤ 3 * 7 := by
      rw [hil]
      exact Nat.mul_le_mul (by omega) (by omega)
    have his := rowsI_s p N w i
    refine brB_intro (fun h2 => ?_) (fun h2 => ?_)
    · have h2 := of_decide_eq_true h2
      have hi1 : w64 ((i : Int) + 1) = ((i + 1 : Nat) : Int) := w64_id (by omega) (by omega)
      have hq : w64 ((w.length : Int) + 1) = ((w.length + 1 : Nat) : Int) := w64_id (by omega) (by omega)
      rw [hq]
      refine loop_okF (T := tab [c_words, c_fourI, c_circle, c_dRow, c_dias, c_isoI, c_reduced]) [0, 1, 2, 7, 10, 11, 24, 25, 26, 31, 32, 37, 38] [(16, 16)] (fun y : Nat => st3 p N free W k w (N - 1) i (w.length + 1) y (D0 ++ rowsI p N w i ++ rowsX p N w i y))
        (fun y => y ≤ w.length + 1) (fun y => w.length + 1 - y) 0 rfl (by rw [show rowsX p N w i 0 = [] from rfl, List.append_nil]; rfl) (Nat.zero_le _) (fun y hy => ?_)
      simp only [st3, go_sem, ↓brB_t, ↓brB_f, Nat.reduceAdd, Int.reduceLE, Int.reduceLT, Int.reduceNeg, decide_true, decide_false, Bool.and_self, Nat.succ_eq_add_one, Int.toNat_natCast, Nat.beq_refl, Bool.and_true, Bool.true_and, Bool.false_or, Bool.or_true, List.all_cons, List.all_nil, Nat.reduceMul, Nat.add_zero, Nat.zero_add, List.length_nil, List.length_cons, dite_true, List.nil_append, Nat.reduceBEq, reduceDIte, reduceIte, reduceCtorEq, Bool.or_false, Bool.true_or, Bool.and_false, Bool.false_and, Bool.not_true, Bool.not_false, Option.isSome_some, Option.isSome_none, Option.getD_some, List.getElem?_cons_zero, List.getElem?_cons_succ, eq_self, and_self, List.take_succ_cons, List.take_zero, List.drop_succ_cons, List.drop_zero]
      have hxl := rowsX_len p N w i y
      have hxs := rowsX_s p N w i y
      refine brB_intro (fun h3 => ?_) (fun h3 => ?_)
      · have h3 := of_decide_eq_true h3
        have hy1 : w64 ((y : Int) + 1) = ((y + 1 : Nat) : Int) := w64_id (by omega) (by omega)
        have hok := four_ok hp2.1 hp2.2 g1 (by omega) (i := (i : Int)) (x := (y : Int)) (by omega) (by omega) (by omega) (by omega)
        rw [hy1]
        refine ⟨⟨by omega, by omega, g1, by omega, by omega, by omega, by omega⟩, hok, ⟨by omega, by omega⟩, by rw [List.length_append, List.length_append]; omega, y + 1, [(16, 832)], by omega, by omega, rfl, ?_⟩
        rw [hxs, ← List.append_assoc]; rfl
      · have h3 := of_decide_eq_false h3
        have e : y = 2 * N - 1 := by omega
        rw [e, List.append_assoc, ← his, hi1]
        exact ⟨i + 1, [(16, 16)], by omega, by omega, rfl, rfl⟩
    · have h2 := of_decide_eq_false h2
      have e : i = N - 1 := by omega
      rw [e, ← hs, hw1]
      exact ⟨k + 1, [(16, 16)], by omega, by omega, rfl, rfl⟩
  · have h1 := of_decide_eq_false h1
    have e : k = W.length := by omega
    rw [e, List.take_length]
    have hpl := rowsW_len p N W
    have hpl2 : (rowsW p N W).length ≤ 15 * 21 := by
      rw [hpl]
      exact Nat.mul_le_mul (by omega) (Nat.le_trans (Nat.mul_le_mul (show N - 1 ≤ 3 by omega) (show 2 * N - 1 ≤ 7 by omega)) (by decide))
    generalize rowsW p N W = D0 at *
    refine ⟨⟨by omega, by omega⟩, ?_⟩
    refine loop_okF (T := tab [c_words, c_fourI, c_circle, c_dRow, c_dias, c_isoI, c_reduced]) [0, 2, 7, 13, 57, 58, 59] [(16, 16)] (fun k : Nat => st4 p N free (diaL N) k (D0 ++ if free then rowsF N k else []))
      (fun k => k ≤ (diaL N).length) (fun k => (diaL N).length - k) 0 rfl (by rw [show rowsF N 0 = [] from rfl, ite_self, List.append_nil]; rfl) (Nat.zero_le _) (fun k hk => ?_)
    simp only [st4, go_sem, ↓brB_t, ↓brB_f, Nat.reduceAdd, Int.reduceLE, Int.reduceLT, Int.reduceNeg, decide_true, decide_false, Bool.and_self, Nat.succ_eq_add_one, Int.toNat_natCast, Nat.beq_refl, Bool.and_true, Bool.true_and, Bool.false_or, Bool.or_true, List.all_cons, List.all_nil, Nat.reduceMul, Nat.add_zero, Nat.zero_add, List.length_nil, List.length_cons, dite_true, List.nil_append, Nat.reduceBEq, reduceDIte, reduceIte, reduceCtorEq, Bool.or_false, Bool.true_or, Bool.and_false, Bool.false_and, Bool.not_true, Bool.not_false, Option.isSome_some, Option.isSome_none, Option.getD_some, List.getElem?_cons_zero, List.getElem?_cons_succ, eq_self, and_self, List.take_succ_cons, List.take_zero, List.drop_succ_cons, List.drop_zero]
    refine brB_intro (fun h2 => ?_) (fun h2 => ?_)
    · have h2 := of_decide_eq_true h2
      have hk1 : w64 ((k : Int) + 1) = ((k + 1 : Nat) : Int) := w64_id (by omega) (by omega)
      rw [hk1]
      refine ⟨⟨by omega, by omega⟩, ?_⟩
      cases free with
      | false => exact ⟨k + 1, [(16, 16)], by omega, by omega, rfl, rfl⟩
      | true =>
        have hd : (diaL N).getD k [] ∈ allL N := (List.mem_filter.1 (show (diaL N).getD k [] ∈ diaL N by rw [getR_lt (by omega)]; exact List.getElem_mem _)).1
        have hdw := (all_isW (by omega) hd).1
        have hfs := rowsF_s N k
        have hfl := rowsF_len N k
        refine ⟨hdw, brB_intro (fun h3 => ?_) (fun h3 => ?_)⟩
        · have h3 := of_decide_eq_true h3
          rw [if_pos (show isoB ((diaL N).getD k []) = true from decide_eq_true (by omega))] at hfs
          have e : (D0 ++ if true = true then rowsF N (k + 1) else []) = (D0 ++ if true = true then rowsF N k else []) ++ [unitR (diaL N).length k] := by rw [if_pos rfl, if_pos rfl, hfs, List.append_assoc]
          exact ⟨⟨by omega, by omega, trivial⟩, ⟨by omega, by rw [List.length_replicate]; omega⟩, by rw [if_pos rfl, List.length_append]; omega, k + 1, [(16, 1296)], by omega, by omega, rfl, by rw [e]; rfl⟩
        · have h3 := of_decide_eq_false h3
          rw [if_neg (show ¬ isoB ((diaL N).getD k []) = true from fun h => h3 (by have := of_decide_eq_true h; omega)), List.append_nil] at hfs
          exact ⟨k + 1, [(16, 16)], by omega, by omega, rfl, by rw [hfs]; rfl⟩
    · have h2 := of_decide_eq_false h2
      have e : k = (diaL N).length := by omega
      rw [e]
      have hfl : (if free = true then rowsF N (diaL N).length else []).length ≤ 18 := by
        split
        · have := rowsF_len N (diaL N).length; omega
        · exact Nat.zero_le _
      rw [← hsp] at hK
      exact ⟨⟨hp, by rw [List.length_append]; omega, (diaL N).length, by omega, hro⟩, retN [1360] rfl hK⟩
def c_rel : Ctr Tryz.prog := ⟨67, ent Tryz.func67 rfl rfl, [], sp_rel, good_rel, []⟩
@[go_sem] theorem c_rel_f : c_rel.f = 67 := rfl
@[go_sem] theorem c_rel_ms : c_rel.ms = [] := rfl
@[go_sem] theorem c_rel_sp : c_rel.spec = sp_rel := rfl
@[go_sem] theorem c_rel_fz : c_rel.fz = [] := rfl
attribute [go_sem] sp_rel
end Go.Proofs.YthfmlelodmcgkaaGreat.V
end
section
namespace Go.Proofs.YthfmlelodmcgkaaGreat.V
open Go
def anyZ (d : List Int) : Bool := d.any fun x => decide (x = 0)
theorem anyZ_s {d : List Int} {i : Nat} (h : i < d.length) : anyZ (d.take (i + 1)) = (anyZ (d.take i) || decide (d.getD i 0 = 0)) := by
  rw [anyZ, List.take_succ_eq_append_getElem h, List.any_append, get_lt h]
  simp [anyZ]
theorem iso_any (w : List Int) : isoB w = anyZ (degL (crRows w (w.length / 2) (w.length / 2))) := by
  unfold isoB
  generalize degL (crRows w (w.length / 2) (w.length / 2)) = d
  have key : ∀ n, n ≤ d.length → decide (0 < (zerT d n).length) = anyZ (d.take n) := fun n => by
    induction n with
    | zero => intro _; rfl
    | succ n ih =>
      intro h
      rw [anyZ_s h, ← ih (by omega), zerT_s, List.length_append]
      by_cases e : d.getD n 0 = 0
      · rw [if_pos e, decide_eq_true e, Bool.or_true]
        exact decide_eq_true (by simp)
      · rw [if_neg e, decide_eq_false e, Bool.or_false]; rfl
  have := key d.length (Nat.le_refl _)
  rwa [List.take_length] at this
theorem rowsW_one (p : Int) (W : LL) : rowsW p 1 W = [] := by
  induction W with
  | nil => rfl
  | cons w W ih => rw [rowsW, List.flatMap_cons]; exact ih
theorem putsS_ok {p : Int} {m : Nat} (hp : primeB p = true) {D : LL} (h : ∀ v ∈ D, okRow p m v) : Red p m (putsS p D) ∧ (putsS p D).length ≤ m := by
  have := puts_pair hp h
  exact ⟨this.1, red_len this.1 this.2.1⟩
theorem rowsX_ok {p : Int} (h2 : 2 ≤ p) (hp : p ≤ 13) {n : Nat} (hn : n ≤ 4) {w : List Int} (hw : isW w = true) (hl : w.length + 2 = 2 * n) {i m : Nat} (hi : i + 1 < n) (hm : m ≤ 2 * n - 1) : ∀ v ∈ rowsX p n w i m, okRow p (diaL n).length v := fun v hv => by
  obtain ⟨x, hx, rfl⟩ := List.mem_map.1 hv
  have hx := List.mem_range.1 hx
  exact relRow_ok h2 hp hn hw hl hi (by omega)
theorem rowsI_ok {p : Int} (h2 : 2 ≤ p) (hp : p ≤ 13) {n : Nat} (hn : n ≤ 4) {w : List Int} (hw : isW w = true) (hl : w.length + 2 = 2 * n) {m : Nat} (hm : m ≤ n - 1) : ∀ v ∈ rowsI p n w m, okRow p (diaL n).length v := fun v hv => by
  obtain ⟨i, hi, hv⟩ := List.mem_flatMap.1 hv
  have hi := List.mem_range.1 hi
  exact rowsX_ok h2 hp hn hw hl (by omega) (Nat.le_refl _) v hv
theorem appR_ok {p : Int} {m : Nat} {a b : LL} (ha : ∀ v ∈ a, okRow p m v) (hb : ∀ v ∈ b, okRow p m v) : ∀ v ∈ a ++ b, okRow p m v := fun v hv => (List.mem_append.1 hv).elim (ha v) (hb v)
def tt1 (p : Int) (N : Nat) (free : Bool) (A W : LL) (k : Nat) (D : LL) : S := ⟨98, [(0, vi p), (1, vi N), (2, vb free), (7, .val (.one (.ro kR A))), (8, .val (.one (.ro kR W))), (9, .val (.one (.ro kR (putsS p D)))), (10, vi k)], []⟩
def tt2 (p : Int) (N : Nat) (free : Bool) (A W : LL) (k i : Nat) (D : LL) : S := ⟨98, [(0, vi p), (1, vi N), (2, vb free), (7, .val (.one (.ro kR A))), (8, .val (.one (.ro kR W))), (9, .val (.one (.ro kR (putsS p D)))), (10, vi k), (11, vi i)], []⟩
def tt3 (p : Int) (N : Nat) (free : Bool) (A W : LL) (k i x : Nat) (D : LL) : S := ⟨98, [(0, vi p), (1, vi N), (2, vb free), (7, .val (.one (.ro kR A))), (8, .val (.one (.ro kR W))), (9, .val (.one (.ro kR (putsS p D)))), (10, vi k), (11, vi i), (12, vi x)], []⟩
def tt4 (p : Int) (free : Bool) (A : LL) (k : Nat) (D : LL) : S := ⟨98, [(0, vi p), (2, vb free), (7, .val (.one (.ro kR A))), (9, .val (.one (.ro kR (putsS p D)))), (13, vi k)], []⟩
def tt5 (p : Int) (free : Bool) (A : LL) (k : Nat) (D : LL) (d : List Int) (b : Bool) (i : Nat) : S := ⟨98, [(0, vi p), (2, vb free), (7, .val (.one (.ro kR A))), (9, .val (.one (.ro kR (putsS p D)))), (13, vi k), (14, ri d), (15, vb b), (16, vi i)], []⟩
def sp_relS : List Cv → List Obj' → Tree
  | [.one (.v (.int .i64 p)), .one (.v (.int .i64 n)), .one (.v (.bool free))], [] => .need (primeB p = true ∧ 1 ≤ n ∧ n ≤ 4) (.ret (.val (.one (.ro (.sl 2 (.int .i64)) (relS p n.toNat free)))) [])
  | _, _ => .fail
set_option maxHeartbeats 4000000 in
set_option maxRecDepth 100000 in
theorem good_relS : Good Tryz.prog 65 sp_relS := by
  refine good_ofF Tryz.func65 rfl _ rfl _ rfl (tab [c_diasS, c_all, c_l04Put, c_l04Row, c_circleS, c_fourS, c_l01Cross, c_degS]) (fun X cs os0 K hok hos hK => ?_)
  clear hos; unfold sp_relS at hK
  split at hK
  case h_2 => exact hK.elim
  rename_i p n free
  refine ⟨by simp, by simp, ?_⟩
  simp only [go_sem] at hK hok
  simp (maxSteps := 4000000) only [go_sem, Tryz.f65, ↓brB_t, ↓brB_f, Nat.reduceAdd, Int.reduceLE, Int.reduceLT, Int.reduceNeg, decide_true, decide_false, Bool.and_self, Nat.succ_eq_add_one, Int.toNat_natCast, Nat.beq_refl, Bool.and_true, Bool.true_and, Bool.false_or, Bool.or_true, List.all_cons, List.all_nil, Nat.reduceMul, Nat.add_zero, Nat.zero_add, List.length_nil, List.length_cons, dite_true, List.nil_append, Nat.reduceBEq, reduceDIte, reduceIte, reduceCtorEq, Bool.or_false, Bool.true_or, Bool.and_false, Bool.false_and, Bool.not_true, Bool.not_false, Option.isSome_some, Option.isSome_none, Option.getD_some, List.getElem?_cons_zero, List.getElem?_cons_succ, eq_self, and_self, List.take_succ_cons, List.take_zero, List.drop_succ_cons, List.drop_zero]
  obtain ⟨⟨hp, h0, h4⟩, hK⟩ := hK
  clear hok
  have hp2 := primeB_r hp
  obtain ⟨N, rfl⟩ : ∃ N : Nat, n = N := ⟨n.toNat, by omega⟩
  rw [Int.toNat_natCast] at hK
  have hN : N ≤ 4 := by omega
  have hdl := dia4_len N hN
  have hw0 : w64 ((N : Int) - 1) = ((N - 1 : Nat) : Int) := by rw [w64_id (by omega) (by omega)]; omega
  rw [hw0]
  refine ⟨⟨by omega, by omega⟩, ⟨by omega, by omega⟩, ?_⟩
  have hWl := all3_len (N - 1) (by omega)
  have hWm : ∀ w ∈ allL (N - 1), isW w = true ∧ w.length + 2 = 2 * N := fun w hw => by
    have := all_isW (show N - 1 ≤ 6 by omega) hw
    exact ⟨this.1, by omega⟩
  have hro := rowsW_ok hp2.1 hp2.2 hN (by omega) (ws := allL (N - 1)) (fun _ h => h)
  have hWe : rowsW p N (if 1 < N then allL (N - 1) else []) = rowsW p N (allL (N - 1)) := by
    split
    · rfl
    · have : N = 1 := by omega
      subst this
      rw [rowsW_one, rowsW_one]
  unfold relS relRows at hK
  rw [hWe] at hK
  rw [Int.toNat_natCast, Int.toNat_natCast]
  generalize allL (N - 1) = W at *
  refine loop_okF (T := tab [c_diasS, c_all, c_l04Put, c_l04Row, c_circleS, c_fourS, c_l01Cross, c_degS]) [0, 1, 2, 7, 8, 9, 10] [] (fun k : Nat => tt1 p N free (diaL N) W k (rowsW p N (W.take k)))
    (fun k => k ≤ W.length) (fun k => W.length - k) 0 rfl rfl (Nat.zero_le _) (fun k hk => ?_)
  simp only [tt1, go_sem, ↓brB_t, ↓brB_f, Nat.reduceAdd, Int.reduceLE, Int.reduceLT, Int.reduceNeg, decide_true, decide_false, Bool.and_self, Nat.succ_eq_add_one, Int.toNat_natCast, Nat.beq_refl, Bool.and_true, Bool.true_and, Bool.false_or, Bool.or_true, List.all_cons, List.all_nil, Nat.reduceMul, Nat.add_zero, Nat.zero_add, List.length_nil, List.length_cons, dite_true, List.nil_append, Nat.reduceBEq, reduceDIte, reduceIte, reduceCtorEq, Bool.or_false, Bool.true_or, Bool.and_false, Bool.false_and, Bool.not_true, Bool.not_false, Option.isSome_some, Option.isSome_none, Option.getD_some, List.getElem?_cons_zero, List.getElem?_cons_succ, eq_self, and_self, List.take_succ_cons, List.take_zero, List.drop_succ_cons, List.drop_zero]
  have hkro : ∀ v ∈ rowsW p N (W.take k), okRow p (diaL N).length v := fun v hv => by
    obtain ⟨w, hw, hv⟩ := List.mem_flatMap.1 hv
    exact hro v (List.mem_flatMap.2 ⟨w, List.mem_of_mem_take hw, hv⟩)
  refine brB_intro (fun h1 => ?_) (fun h1 => ?_)
  · have h1 := of_decide_eq_true h1
    have hkl : k < W.length := by omega
    have hw1 : w64 ((k : Int) + 1) = ((k + 1 : Nat) : Int) := w64_id (by omega) (by omega)
    obtain ⟨g1, g2⟩ := hWm _ (show W.getD k [] ∈ W by rw [getR_lt hkl]; exact List.getElem_mem _)
    have hs := rowsW_s p N hkl
    generalize rowsW p N (W.take k) = D0 at *
    generalize hw : W.getD k [] = w at *
    refine loop_okF (T := tab [c_diasS, c_all, c_l04Put, c_l04Row, c_circleS, c_fourS, c_l01Cross, c_degS]) [0, 1, 2, 7, 8, 9, 10, 11] [] (fun i : Nat => tt2 p N free (diaL N) W k i (D0 ++ rowsI p N w i))
      (fun i => i ≤ N - 1) (fun i => N - 1 - i) 0 rfl (by rw [show rowsI p N w 0 = [] from rfl, List.append_nil]; rfl) (Nat.zero_le _) (fun i hi => ?_)
    simp only [tt2, go_sem, ↓brB_t, ↓brB_f, Nat.reduceAdd, Int.reduceLE, Int.reduceLT, Int.reduceNeg, decide_true, decide_false, Bool.and_self, Nat.succ_eq_add_one, Int.toNat_natCast, Nat.beq_refl, Bool.and_true, Bool.true_and, Bool.false_or, Bool.or_true, List.all_cons, List.all_nil, Nat.reduceMul, Nat.add_zero, Nat.zero_add, List.length_nil, List.length_cons, dite_true, List.nil_append, Nat.reduceBEq, reduceDIte, reduceIte, reduceCtorEq, Bool.or_false, Bool.true_or, Bool.and_false, Bool.false_and, Bool.not_true, Bool.not_false, Option.isSome_some, Option.isSome_none, Option.getD_some, List.getElem?_cons_zero, List.getElem?_cons_succ, eq_self, and_self, List.take_succ_cons, List.take_zero, List.drop_succ_cons, List.drop_zero]
    have his := rowsI_s p N w i
    have hiro := rowsI_ok hp2.1 hp2.2 hN g1 g2 hi
    rw [hw0]
    refine brB_intro (fun h2 => ?_) (fun h2 => ?_)
    · have h2 := of_decide_eq_true h2
      have hi1 : w64 ((i : Int) + 1) = ((i + 1 : Nat) : Int) := w64_id (by omega) (by omega)
      refine loop_okF (T := tab [c_diasS, c_all, c_l04Put, c_l04Row, c_circleS, c_fourS, c_l01Cross, c_degS]) [0, 1, 2, 7, 8, 9, 10, 11, 12] [] (fun y : Nat => tt3 p N free (diaL N) W k i y (D0 ++ rowsI p N w i ++ rowsX p N w i y))
        (fun y => y ≤ 2 * N - 1) (fun y => 2 * N - 1 - y) 0 rfl (by rw [show rowsX p N w i 0 = [] from rfl, List.append_nil]; rfl) (Nat.zero_le _) (fun y hy => ?_)
      simp only [tt3, go_sem, ↓brB_t, ↓brB_f, Nat.reduceAdd, Int.reduceLE, Int.reduceLT, Int.reduceNeg, decide_true, decide_false, Bool.and_self, Nat.succ_eq_add_one, Int.toNat_natCast, Nat.beq_refl, Bool.and_true, Bool.true_and, Bool.false_or, Bool.or_true, List.all_cons, List.all_nil, Nat.reduceMul, Nat.add_zero, Nat.zero_add, List.length_nil, List.length_cons, dite_true, List.nil_append, Nat.reduceBEq, reduceDIte, reduceIte, reduceCtorEq, Bool.or_false, Bool.true_or, Bool.and_false, Bool.false_and, Bool.not_true, Bool.not_false, Option.isSome_some, Option.isSome_none, Option.getD_some, List.getElem?_cons_zero, List.getElem?_cons_succ, eq_self, and_self, List.take_succ_cons, List.take_zero, List.drop_succ_cons, List.drop_zero]
      have hxs := rowsX_s p N w i y
      have hq : w64 (w64 (2 * (N : Int)) - 2) = ((2 * N - 2 : Nat) : Int) := by rw [w64_id (x := 2 * (N : Int)) (by omega) (by omega), w64_id (by omega) (by omega)]; omega
      rw [hq, hw]
      refine brB_intro (fun h3 => ?_) (fun h3 => ?_)
      · have h3 := of_decide_eq_true h3
        have hy1 : w64 ((y : Int) + 1) = ((y + 1 : Nat) : Int) := w64_id (by omega) (by omega)
        have hok := four_ok hp2.1 hp2.2 g1 (by omega) (i := (i : Int)) (x := (y : Int)) (by omega) (by omega) (by omega) (by omega)
        have hpt := putsS_ok hp (appR_ok (appR_ok hkro hiro) (rowsX_ok hp2.1 hp2.2 hN g1 g2 (i := i) (by omega) hy))
        have hrr := relRow_ok hp2.1 hp2.2 hN g1 g2 (i := i) (x := y) (by omega) (by omega)
        have hps := putsS_s p (D0 ++ rowsI p N w i ++ rowsX p N w i y) (relRow p N w i y)
        rw [hy1]
        refine ⟨⟨by omega, by omega⟩, ⟨by omega, by omega, g1, by omega, by omega, by omega, by omega⟩, hok, by omega, ⟨hp, by omega, (diaL N).length, by omega, hpt.1, hrr⟩, y + 1, [], by omega, by omega, rfl, ?_⟩
        rw [hxs, ← List.append_assoc, hps]; rfl
      · have h3 := of_decide_eq_false h3
        have e : y = 2 * N - 1 := by omega
        rw [e, List.append_assoc, ← his, hi1]
        exact ⟨i + 1, [], by omega, by omega, rfl, rfl⟩
    · have h2 := of_decide_eq_false h2
      have e : i = N - 1 := by omega
      rw [e, ← hs, hw1]
      exact ⟨k + 1, [], by omega, by omega, rfl, rfl⟩
  · have h1 := of_decide_eq_false h1
    have e : k = W.length := by omega
    rw [e, List.take_length]
    generalize rowsW p N W = D0 at *
    refine loop_okF (T := tab [c_diasS, c_all, c_l04Put, c_l04Row, c_circleS, c_fourS, c_l01Cross, c_degS]) [0, 2, 7, 9, 13] [] (fun k : Nat => tt4 p free (diaL N) k (D0 ++ if free then rowsF N k else []))
      (fun k => k ≤ (diaL N).length) (fun k => (diaL N).length - k) 0 rfl (by rw [show rowsF N 0 = [] from rfl, ite_self, List.append_nil]; rfl) (Nat.zero_le _) (fun k hk => ?_)
    simp only [tt4, go_sem, ↓brB_t, ↓brB_f, Nat.reduceAdd, Int.reduceLE, Int.reduceLT, Int.reduceNeg, decide_true, decide_false, Bool.and_self, Nat.succ_eq_add_one, Int.toNat_natCast, Nat.beq_refl, Bool.and_true, Bool.true_and, Bool.false_or, Bool.or_true, List.all_cons, List.all_nil, Nat.reduceMul, Nat.add_zero, Nat.zero_add, List.length_nil, List.length_cons, dite_true, List.nil_append, Nat.reduceBEq, reduceDIte, reduceIte, reduceCtorEq, Bool.or_false, Bool.true_or, Bool.and_false, Bool.false_and, Bool.not_true, Bool.not_false, Option.isSome_some, Option.isSome_none, Option.getD_some, List.getElem?_cons_zero, List.getElem?_cons_succ, eq_self, and_self, List.take_succ_cons, List.take_zero, List.drop_succ_cons, List.drop_zero]
    refine brB_intro (fun h2 => ?_) (fun h2 => ?_)
    · have h2 := of_decide_eq_true h2
      have hk1 : w64 ((k : Int) + 1) = ((k + 1 : Nat) : Int) := w64_id (by omega) (by omega)
      cases free with
      | false => exact ret0 hK
      | true =>
        have hd : (diaL N).getD k [] ∈ allL N := (List.mem_filter.1 (show (diaL N).getD k [] ∈ diaL N by rw [getR_lt (by omega)]; exact List.getElem_mem _)).1
        have hdw := (all_isW (by omega) hd).1
        have hfs := rowsF_s N k
        have hfl := rowsF_len N k
        have hia := iso_any ((diaL N).getD k [])
        refine ⟨⟨by omega, by omega⟩, hdw, cr_sq (y_len hdw), ?_⟩
        have hql := (cr_sq (y_len hdw)).1
        have hdl2 : (degL (crRows ((diaL N).getD k []) (((diaL N).getD k []).length / 2) (((diaL N).getD k []).length / 2))).length ≤ 1000 := by rw [degL, List.length_map]; exact hql
        rw [if_pos rfl] at *
        generalize isoB ((diaL N).getD k []) = bb at *
        generalize degL (crRows ((diaL N).getD k []) (((diaL N).getD k []).length / 2) (((diaL N).getD k []).length / 2)) = d at *
        refine loop_okF (T := tab [c_diasS, c_all, c_l04Put, c_l04Row, c_circleS, c_fourS, c_l01Cross, c_degS]) [0, 2, 7, 9, 13, 14, 15, 16] [] (fun i : Nat => tt5 p true (diaL N) k (D0 ++ rowsF N k) d (anyZ (d.take i)) i)
          (fun i => i ≤ d.length) (fun i => d.length - i) 0 rfl rfl (Nat.zero_le _) (fun i hi => ?_)
        simp only [tt5, go_sem, ↓brB_t, ↓brB_f, Nat.reduceAdd, Int.reduceLE, Int.reduceLT, Int.reduceNeg, decide_true, decide_false, Bool.and_self, Nat.succ_eq_add_one, Int.toNat_natCast, Nat.beq_refl, Bool.and_true, Bool.true_and, Bool.false_or, Bool.or_true, List.all_cons, List.all_nil, Nat.reduceMul, Nat.add_zero, Nat.zero_add, List.length_nil, List.length_cons, dite_true, List.nil_append, Nat.reduceBEq, reduceDIte, reduceIte, reduceCtorEq, Bool.or_false, Bool.true_or, Bool.and_false, Bool.false_and, Bool.not_true, Bool.not_false, Option.isSome_some, Option.isSome_none, Option.getD_some, List.getElem?_cons_zero, List.getElem?_cons_succ, eq_self, and_self, List.take_succ_cons, List.take_zero, List.drop_succ_cons, List.drop_zero]
        refine brB_intro (fun h3 => ?_) (fun h3 => ?_)
        · have h3 := of_decide_eq_true h3
          have hi1 : w64 ((i : Int) + 1) = ((i + 1 : Nat) : Int) := w64_id (by omega) (by omega)
          have has := anyZ_s (d := d) (i := i) (by omega)
          rw [hi1]
          refine brB_intro (fun h4 => ?_) (fun h4 => ⟨⟨by omega, by omega⟩, ?_⟩)
          · rw [h4, Bool.true_or] at has
            exact ⟨i + 1, [], by omega, by omega, rfl, by rw [has]; rfl⟩
          · rw [h4, Bool.false_or] at has
            exact ⟨i + 1, [], by omega, by omega, rfl, by rw [has]; rfl⟩
        · have h3 := of_decide_eq_false h3
          have e : i = d.length := by omega
          rw [e, List.take_length, ← hia, hk1]
          have hpt := putsS_ok hp (appR_ok hro (rowsF_ok hp2.1 N k))
          refine brB_intro (fun h4 => ?_) (fun h4 => ?_)
          · rw [if_pos h4] at hfs
            have hps := putsS_s p (D0 ++ rowsF N k) (unitR (diaL N).length k)
            rw [List.append_assoc, ← hfs] at hps
            exact ⟨⟨by omega, by omega, trivial⟩, ⟨by omega, by rw [List.length_replicate]; omega⟩, ⟨hp, by omega, (diaL N).length, by omega, hpt.1, unitR_ok hp2.1 _ _⟩, k + 1, [], by omega, by omega, rfl, by first | (rw [hps]; rfl) | (rw [if_pos rfl, hps]; rfl)⟩
          · rw [if_neg (by rw [h4]; decide), List.append_nil] at hfs
            exact ⟨k + 1, [], by omega, by omega, rfl, by first | (rw [hfs]; rfl) | (rw [if_pos rfl, hfs]; rfl)⟩
    · have h2 := of_decide_eq_false h2
      have e : k = (diaL N).length := by omega
      rw [e]
      exact ret0 hK
def c_relS : Ctr Tryz.prog := ⟨65, ent Tryz.func65 rfl rfl, [], sp_relS, good_relS, []⟩
@[go_sem] theorem c_relS_f : c_relS.f = 65 := rfl
@[go_sem] theorem c_relS_ms : c_relS.ms = [] := rfl
@[go_sem] theorem c_relS_sp : c_relS.spec = sp_relS := rfl
@[go_sem] theorem c_relS_fz : c_relS.fz = [] := rfl
attribute [go_sem] sp_relS
end Go.Proofs.YthfmlelodmcgkaaGreat.V
end
section
namespace Go.Proofs.YthfmlelodmcgkaaGreat.V
open Go
theorem relS_zero (p : Int) (free : Bool) : relS p 0 free = [] := by
  have e : relRows p 0 free = [] := by
    unfold relRows
    rw [if_neg (by decide)]
    have e1 : rowsF 0 (diaL 0).length = [] := by
      have : isoB ((diaL 0).getD 0 []) = false := by decide +kernel
      have hl : (diaL 0).length = 1 := by decide +kernel
      rw [hl, rowsF_s, this]; rfl
    rw [e1, ite_self]; rfl
  rw [relS, e]; rfl
theorem dia0 : (diaL 0).length = 1 := by decide +kernel
theorem relS_len {p : Int} (hp : primeB p = true) {n : Nat} (hn : n ≤ 4) (free : Bool) : (relS p n free).length ≤ (diaL n).length := by
  have := relS_red hp hn free
  exact red_len this.1 this.2
theorem okOrd_p {p n low : Int} (h : okOrd p n low = true) : primeB p = true := (Bool.and_eq_true_iff.1 h).1
def dimR (p n : Int) (free : Bool) : Int × Int := if okOrd p n 0 then (((diaL n.toNat).length : Int) - ((relS p n.toNat free).length : Int), 0) else (0, 2)
def sp_dim : List Cv → List Obj' → Tree
  | [.one (.v (.int .i64 p)), .one (.v (.int .i64 n)), .one (.v (.bool free))], [] => .ret (.tup [.one (.v (.int .i64 (dimR p n free).1)), .one (.v (.int .i64 (dimR p n free).2))]) []
  | _, _ => .fail
def sp_dimOFree : List Cv → List Obj' → Tree
  | [.one (.v (.int .i64 p)), .one (.v (.int .i64 n))], [] => .ret (.tup [.one (.v (.int .i64 (dimR p n true).1)), .one (.v (.int .i64 (dimR p n true).2))]) []
  | _, _ => .fail
def sp_dimS : List Cv → List Obj' → Tree
  | [.one (.v (.int .i64 p)), .one (.v (.int .i64 n)), .one (.v (.bool free))], [] => .need (primeB p = true ∧ 0 ≤ n ∧ n ≤ 4) (.ret (vi (((diaL n.toNat).length : Int) - ((relS p n.toNat free).length : Int))) [])
  | _, _ => .fail
set_option maxHeartbeats 4000000 in
set_option maxRecDepth 100000 in
theorem good_dimS : Good Tryz.prog 63 sp_dimS := by
  refine good_ofF Tryz.func63 rfl _ rfl _ rfl (tab [c_diasS, c_relS]) (fun X cs os0 K hok hos hK => ?_)
  clear hos; unfold sp_dimS at hK
  split at hK
  case h_2 => exact hK.elim
  rename_i p n free
  refine ⟨by simp, by simp, ?_⟩
  simp only [go_sem] at hK hok
  simp (maxSteps := 4000000) only [go_sem, Tryz.f63, ↓brB_t, ↓brB_f, Nat.reduceAdd, Int.reduceLE, Int.reduceLT, Int.reduceNeg, decide_true, decide_false, Bool.and_self, Nat.succ_eq_add_one, Int.toNat_natCast, Nat.beq_refl, Bool.and_true, Bool.true_and, Bool.false_or, Bool.or_true, List.all_cons, List.all_nil, Nat.reduceMul, Nat.add_zero, Nat.zero_add, List.length_nil, List.length_cons, dite_true, List.nil_append, Nat.reduceBEq, reduceDIte, reduceIte, reduceCtorEq, Bool.or_false, Bool.true_or, Bool.and_false, Bool.false_and, Bool.not_true, Bool.not_false, Option.isSome_some, Option.isSome_none, Option.getD_some, List.getElem?_cons_zero, List.getElem?_cons_succ, eq_self, and_self, List.take_succ_cons, List.take_zero, List.drop_succ_cons, List.drop_zero]
  obtain ⟨⟨hp, h0, h4⟩, hK⟩ := hK
  clear hok
  have hl := relS_len hp (n := n.toNat) (by omega) free
  have hd := dia4_len n.toNat (by omega)
  refine brB_intro (fun h1 => ret0 ?_) (fun h1 => ?_)
  · have h1 := of_decide_eq_true h1
    subst h1
    have e : (((diaL (0 : Int).toNat).length : Int) - ((relS p (0 : Int).toNat free).length : Int)) = 1 := by
      rw [show (0 : Int).toNat = 0 from rfl, relS_zero, dia0]; rfl
    rw [e] at hK; exact hK
  · have h1 := of_decide_eq_false h1
    refine ⟨⟨by omega, by omega⟩, ⟨hp, by omega, by omega⟩, ret0 ?_⟩
    rw [w64_id (by omega) (by omega)]; exact hK
def c_dimS : Ctr Tryz.prog := ⟨63, ent Tryz.func63 rfl rfl, [], sp_dimS, good_dimS, []⟩
@[go_sem] theorem c_dimS_f : c_dimS.f = 63 := rfl
@[go_sem] theorem c_dimS_ms : c_dimS.ms = [] := rfl
@[go_sem] theorem c_dimS_sp : c_dimS.spec = sp_dimS := rfl
@[go_sem] theorem c_dimS_fz : c_dimS.fz = [] := rfl
attribute [go_sem] sp_dimS
set_option maxHeartbeats 4000000 in
set_option maxRecDepth 100000 in
theorem good_dim : Good Tryz.prog 64 sp_dim := by
  refine good_ofF Tryz.func64 rfl _ rfl _ rfl (tab [c_order, c_dias, c_rel]) (fun X cs os0 K hok hos hK => ?_)
  clear hos; unfold sp_dim at hK
  split at hK
  case h_2 => exact hK.elim
  rename_i p n free
  refine ⟨by simp, by simp, ?_⟩
  simp only [go_sem] at hK hok
  simp (maxSteps := 4000000) only [go_sem, Tryz.f64, ↓brB_t, ↓brB_f, Nat.reduceAdd, Int.reduceLE, Int.reduceLT, Int.reduceNeg, decide_true, decide_false, Bool.and_self, Nat.succ_eq_add_one, Int.toNat_natCast, Nat.beq_refl, Bool.and_true, Bool.true_and, Bool.false_or, Bool.or_true, List.all_cons, List.all_nil, Nat.reduceMul, Nat.add_zero, Nat.zero_add, List.length_nil, List.length_cons, dite_true, List.nil_append, Nat.reduceBEq, reduceDIte, reduceIte, reduceCtorEq, Bool.or_false, Bool.true_or, Bool.and_false, Bool.false_and, Bool.not_true, Bool.not_false, Option.isSome_some, Option.isSome_none, Option.getD_some, List.getElem?_cons_zero, List.getElem?_cons_succ, eq_self, and_self, List.take_succ_cons, List.take_zero, List.drop_succ_cons, List.drop_zero]
  clear hok
  refine brB_intro (fun h1 => ret0 ?_) (fun h1 => ?_)
  · rw [dimR, if_neg (by rw [snb h1]; decide)] at hK; exact hK
  · have h1 := snb' h1
    have hn := okOrd_n h1
    have hp := okOrd_p h1
    have hl := relS_len hp (n := n.toNat) (by omega) free
    have hd := dia4_len n.toNat (by omega)
    rw [dimR, if_pos h1] at hK
    refine ⟨⟨by omega, by omega⟩, ⟨hp, by omega, by omega⟩, ret0 ?_⟩
    rw [w64_id (by omega) (by omega)]; exact hK
def c_dim : Ctr Tryz.prog := ⟨64, ent Tryz.func64 rfl rfl, [], sp_dim, good_dim, []⟩
@[go_sem] theorem c_dim_f : c_dim.f = 64 := rfl
@[go_sem] theorem c_dim_ms : c_dim.ms = [] := rfl
@[go_sem] theorem c_dim_sp : c_dim.spec = sp_dim := rfl
@[go_sem] theorem c_dim_fz : c_dim.fz = [] := rfl
attribute [go_sem] sp_dim
set_option maxHeartbeats 4000000 in
set_option maxRecDepth 100000 in
theorem good_dimIFree : Good Tryz.prog 28 sp_dimOFree := by
  refine good_ofF Tryz.func28 rfl _ rfl _ rfl (tab [c_dim]) (fun X cs os0 K hok hos hK => ?_)
  clear hos; unfold sp_dimOFree at hK
  split at hK
  case h_2 => exact hK.elim
  rename_i p n
  refine ⟨by simp, by simp, ?_⟩
  simp only [go_sem] at hK hok
  simp (maxSteps := 4000000) only [go_sem, Tryz.f28, ↓brB_t, ↓brB_f, Nat.reduceAdd, Int.reduceLE, Int.reduceLT, Int.reduceNeg, decide_true, decide_false, Bool.and_self, Nat.succ_eq_add_one, Int.toNat_natCast, Nat.beq_refl, Bool.and_true, Bool.true_and, Bool.false_or, Bool.or_true, List.all_cons, List.all_nil, Nat.reduceMul, Nat.add_zero, Nat.zero_add, List.length_nil, List.length_cons, dite_true, List.nil_append, Nat.reduceBEq, reduceDIte, reduceIte, reduceCtorEq, Bool.or_false, Bool.true_or, Bool.and_false, Bool.false_and, Bool.not_true, Bool.not_false, Option.isSome_some, Option.isSome_none, Option.getD_some, List.getElem?_cons_zero, List.getElem?_cons_succ, eq_self, and_self, List.take_succ_cons, List.take_zero, List.drop_succ_cons, List.drop_zero]
  exact ret0 hK
def c_dimIFree : Ctr Tryz.prog := ⟨28, ent Tryz.func28 rfl rfl, [], sp_dimOFree, good_dimIFree, []⟩
@[go_sem] theorem c_dimIFree_f : c_dimIFree.f = 28 := rfl
@[go_sem] theorem c_dimIFree_ms : c_dimIFree.ms = [] := rfl
@[go_sem] theorem c_dimIFree_sp : c_dimIFree.spec = sp_dimOFree := rfl
@[go_sem] theorem c_dimIFree_fz : c_dimIFree.fz = [] := rfl
attribute [go_sem] sp_dimOFree
set_option maxHeartbeats 4000000 in
set_option maxRecDepth 100000 in
theorem good_dimOFree : Good Tryz.prog 27 sp_dimOFree := by
  refine good_ofF Tryz.func27 rfl _ rfl _ rfl (tab [c_code, c_dimS]) (fun X cs os0 K hok hos hK => ?_)
  clear hos; unfold sp_dimOFree at hK
  split at hK
  case h_2 => exact hK.elim
  rename_i p n
  refine ⟨by simp, by simp, ?_⟩
  simp only [go_sem] at hK hok
  simp (maxSteps := 4000000) only [go_sem, Tryz.f27, ↓brB_t, ↓brB_f, Nat.reduceAdd, Int.reduceLE, Int.reduceLT, Int.reduceNeg, decide_true, decide_false, Bool.and_self, Nat.succ_eq_add_one, Int.toNat_natCast, Nat.beq_refl, Bool.and_true, Bool.true_and, Bool.false_or, Bool.or_true, List.all_cons, List.all_nil, Nat.reduceMul, Nat.add_zero, Nat.zero_add, List.length_nil, List.length_cons, dite_true, List.nil_append, Nat.reduceBEq, reduceDIte, reduceIte, reduceCtorEq, Bool.or_false, Bool.true_or, Bool.and_false, Bool.false_and, Bool.not_true, Bool.not_false, Option.isSome_some, Option.isSome_none, Option.getD_some, List.getElem?_cons_zero, List.getElem?_cons_succ, eq_self, and_self, List.take_succ_cons, List.take_zero, List.drop_succ_cons, List.drop_zero]
  clear hok
  refine brB_intro (fun h1 => ret0 ?_) (fun h1 => ?_)
  · have e : okOrd p n 0 = false := by
      cases h : okOrd p n 0 with
      | false => rfl
      | true => rw [h, if_pos rfl] at h1; cases h1
    rw [dimR, if_neg (by rw [e]; decide)] at hK
    rw [e]; exact hK
  · have e : okOrd p n 0 = true := by
      cases h : okOrd p n 0 with
      | true => rfl
      | false => rw [h, if_neg (by decide)] at h1; cases h1
    have hn := okOrd_n e
    rw [dimR, if_pos e] at hK
    exact ⟨⟨okOrd_p e, by omega, by omega⟩, ret0 hK⟩
def c_dimOFree : Ctr Tryz.prog := ⟨27, ent Tryz.func27 rfl rfl, [], sp_dimOFree, good_dimOFree, []⟩
@[go_sem] theorem c_dimOFree_f : c_dimOFree.f = 27 := rfl
@[go_sem] theorem c_dimOFree_ms : c_dimOFree.ms = [] := rfl
@[go_sem] theorem c_dimOFree_sp : c_dimOFree.spec = sp_dimOFree := rfl
@[go_sem] theorem c_dimOFree_fz : c_dimOFree.fz = [] := rfl
attribute [go_sem] sp_dimOFree
def sp_law2Free : List Cv → List Obj' → Tree
  | [.one (.v (.int .i64 p)), .one (.v (.int .i64 n))], [] => .ret (vb true) []
  | _, _ => .fail
set_option maxHeartbeats 4000000 in
set_option maxRecDepth 100000 in
theorem good_lawFreeDimension : Good Tryz.prog 6 sp_law2Free := by
  refine good_ofF Tryz.func6 rfl _ rfl _ rfl (tab [c_dimIFree, c_dimOFree]) (fun X cs os0 K hok hos hK => ?_)
  clear hos; unfold sp_law2Free at hK
  split at hK
  case h_2 => exact hK.elim
  rename_i p n
  refine ⟨by simp, by simp, ?_⟩
  simp only [go_sem] at hK hok
  simp (maxSteps := 4000000) only [go_sem, Tryz.f6, ↓brB_t, ↓brB_f, Nat.reduceAdd, Int.reduceLE, Int.reduceLT, Int.reduceNeg, decide_true, decide_false, Bool.and_self, Nat.succ_eq_add_one, Int.toNat_natCast, Nat.beq_refl, Bool.and_true, Bool.true_and, Bool.false_or, Bool.or_true, List.all_cons, List.all_nil, Nat.reduceMul, Nat.add_zero, Nat.zero_add, List.length_nil, List.length_cons, dite_true, List.nil_append, Nat.reduceBEq, reduceDIte, reduceIte, reduceCtorEq, Bool.or_false, Bool.true_or, Bool.and_false, Bool.false_and, Bool.not_true, Bool.not_false, Option.isSome_some, Option.isSome_none, Option.getD_some, List.getElem?_cons_zero, List.getElem?_cons_succ, eq_self, and_self, List.take_succ_cons, List.take_zero, List.drop_succ_cons, List.drop_zero]
  exact ret0 hK
end Go.Proofs.YthfmlelodmcgkaaGreat.V
end
