/- Packed texts of this session's: VM, VJ0, VJC, VCh, VI7, VI8, VE1, VE2, VO. Conditions: in each. -/
import Derived.Test.YthfmlelodmcgkaaGreatProg
import Derived.Test.YthfmlelodmcgkaaGreatZvw1
set_option linter.unusedVariables false
set_option linter.unusedSimpArgs false
set_option linter.unusedSectionVars false
section
namespace Go.Proofs.YthfmlelodmcgkaaGreat.V
open Go
abbrev MapL := List (ByteArray × (List Int × Int))
abbrev tG : Nat := 134
abbrev tMT : Nat := 132
abbrev oG (p : Int) (m : Nat) : Obj' := .box tG [.v (.int .i64 p), .own m]
abbrev oM (l : MapL) : Obj' := .mp tMT kTerm ([], 0) l
def gAt (l : MapL) (w : List Int) : Int := ((findK l (textB w)).getD ([], 0)).2
def gAdd (p : Int) (l : MapL) (w : List Int) (v : Int) : MapL := putK l (textB w) (w, modI p (w64 (gAt l w + v)))
theorem bytesS_size (l : List Int) : (bytesS l).size = l.length := by
  have h : ∀ (l : List Int) (r : ByteArray), (l.foldl (fun r n => r.push (UInt8.ofNat n.toNat)) r).size = r.size + l.length := fun l => by
    induction l with
    | nil => intro r; rfl
    | cons x l ih =>
      intro r
      rw [List.foldl_cons, ih, ByteArray.size_push, List.length_cons]
      omega
  unfold bytesS
  rw [h]
  simp
theorem textB_size (w : List Int) : (textB w).size = w.length := by rw [textB, bytesS_size, List.length_map]
def sp_newG : List Cv → List Obj' → Tree
  | [.one (.v (.int .i64 p))], [] => .ret (.val (.one (.ptr 0 0))) [oG p 1, oM []]
  | _, _ => .fail
set_option maxHeartbeats 4000000 in
set_option maxRecDepth 100000 in
theorem good_newG : Good Tryz.prog 122 sp_newG := by
  refine good_ofF Tryz.func122 rfl _ rfl _ rfl (tab []) (fun X cs os0 K hok hos hK => ?_)
  clear hos; unfold sp_newG at hK
  split at hK
  case h_2 => exact hK.elim
  rename_i p
  refine ⟨by simp, by simp, ?_⟩
  simp only [go_sem] at hK hok
  simp (maxSteps := 4000000) only [go_sem, Tryz.f122, ↓brB_t, ↓brB_f, Nat.reduceAdd, Int.reduceLE, Int.reduceLT, Int.reduceNeg, decide_true, decide_false, Bool.and_self, Nat.succ_eq_add_one, Int.toNat_natCast, Nat.beq_refl, Bool.and_true, Bool.true_and, Bool.false_or, Bool.or_true, List.all_cons, List.all_nil, Nat.reduceMul, Nat.add_zero, Nat.zero_add, List.length_nil, List.length_cons, dite_true, List.nil_append, Nat.reduceBEq, reduceDIte, reduceIte, reduceCtorEq, Bool.or_false, Bool.true_or, Bool.and_false, Bool.false_and, Bool.not_true, Bool.not_false, Option.isSome_some, Option.isSome_none, Option.getD_some, List.getElem?_cons_zero, List.getElem?_cons_succ, eq_self, and_self, List.take_succ_cons, List.take_zero, List.drop_succ_cons, List.drop_zero]
  exact retN [112, 80] rfl hK
def c_newG : Ctr Tryz.prog := ⟨122, ent Tryz.func122 rfl rfl, [], sp_newG, good_newG, []⟩
@[go_sem] theorem c_newG_f : c_newG.f = 122 := rfl
@[go_sem] theorem c_newG_ms : c_newG.ms = [] := rfl
@[go_sem] theorem c_newG_sp : c_newG.spec = sp_newG := rfl
@[go_sem] theorem c_newG_fz : c_newG.fz = [] := rfl
attribute [go_sem] sp_newG
def sp_gAdd : List Cv → List Obj' → Tree
  | [.one (.ptr 0 0), .one (.ro (.int .i64) w), .one (.v (.int .i64 v))], [.box t [.v (.int .i64 p), .own 1], .mp 132 (.pr (.sl 2 (.int .i64)) (.int .i64)) z l] =>
    .need (p ≠ 0 ∧ w.length < 1099511627776 ∧ (l : MapL).length ≤ 1099511627776 ∧ z = (([], 0) : List Int × Int)) (.ret (.tup []) [.box t [.v (.int .i64 p), .own 1], .mp 132 (.pr (.sl 2 (.int .i64)) (.int .i64)) z (gAdd p l w v)])
  | _, _ => .fail
set_option maxHeartbeats 4000000 in
set_option maxRecDepth 100000 in
theorem good_gAdd : Good Tryz.prog 123 sp_gAdd := by
  refine good_ofF Tryz.func123 rfl _ rfl _ rfl (tab [c_wordText, c_rest]) (fun X cs os0 K hok hos hK => ?_)
  unfold sp_gAdd at hK
  split at hK
  case h_2 => exact hK.elim
  rename_i w v t p z l
  refine ⟨by simp, by simp, ?_⟩
  simp only [go_sem] at hK hok hos
  simp (maxSteps := 4000000) only [go_sem, Tryz.f123, ↓brB_t, ↓brB_f, Nat.reduceAdd, Int.reduceLE, Int.reduceLT, Int.reduceNeg, decide_true, decide_false, Bool.and_self, Nat.succ_eq_add_one, Int.toNat_natCast, Nat.beq_refl, Bool.and_true, Bool.true_and, Bool.false_or, Bool.or_true, List.all_cons, List.all_nil, Nat.reduceMul, Nat.add_zero, Nat.zero_add, List.length_nil, List.length_cons, dite_true, List.nil_append, Nat.reduceBEq, reduceDIte, reduceIte, reduceCtorEq, Bool.or_false, Bool.true_or, Bool.and_false, Bool.false_and, Bool.not_true, Bool.not_false, Option.isSome_some, Option.isSome_none, Option.getD_some, List.getElem?_cons_zero, List.getElem?_cons_succ, eq_self, and_self, List.take_succ_cons, List.take_zero, List.drop_succ_cons, List.drop_zero]
  obtain ⟨⟨hp, hw, hl, rfl⟩, hK⟩ := hK
  clear hok hos
  have hs : (textB w).size ≤ 1099511627776 := by rw [textB_size]; omega
  refine ⟨hw, hs, hp, ⟨hs, hl⟩, by kernel_rfl, retN [0, 1] rfl hK⟩
def c_gAdd : Ctr Tryz.prog := ⟨123, ent Tryz.func123 rfl rfl, [true, false, false], sp_gAdd, good_gAdd, [false, true]⟩
@[go_sem] theorem c_gAdd_f : c_gAdd.f = 123 := rfl
@[go_sem] theorem c_gAdd_ms : c_gAdd.ms = [true, false, false] := rfl
@[go_sem] theorem c_gAdd_sp : c_gAdd.spec = sp_gAdd := rfl
@[go_sem] theorem c_gAdd_fz : c_gAdd.fz = [false, true] := rfl
attribute [go_sem] sp_gAdd
def gAll (p : Int) (l : MapL) (k : Int) (ts : TermL) : MapL := ts.foldl (fun l x => gAdd p l x.1 (w64 (x.2 * k))) l
theorem gAdd_len (p : Int) (l : MapL) (w : List Int) (v : Int) : (gAdd p l w v).length ≤ l.length + 1 := by
  unfold gAdd
  rw [putK_length]
  split <;> omega
theorem gAll_s {p : Int} {l : MapL} {k : Int} {ts : TermL} {i : Nat} (h : i < ts.length) : gAll p l k (ts.take (i + 1)) = gAdd p (gAll p l k (ts.take i)) (ts.getD i ([], 0)).1 (w64 ((ts.getD i ([], 0)).2 * k)) := by
  have e : ts.getD i ([], 0) = ts[i] := by rw [List.getD_eq_getElem?_getD, List.getElem?_eq_getElem h]; rfl
  rw [gAll, List.take_succ_eq_append_getElem h, List.foldl_append, e]; rfl
theorem gAll_len (p : Int) (l : MapL) (k : Int) (ts : TermL) : (gAll p l k ts).length ≤ l.length + ts.length := by
  unfold gAll
  induction ts generalizing l with
  | nil => simp
  | cons x ts ih =>
    rw [List.foldl_cons, List.length_cons]
    have := ih (gAdd p l x.1 (w64 (x.2 * k)))
    have := gAdd_len p l x.1 (w64 (x.2 * k))
    omega
def sp_gAll : List Cv → List Obj' → Tree
  | [.one (.ptr 0 0), .agg [.v (.int .i64 q), .ro (.pr (.sl 2 (.int .i64)) (.int .i64)) ts], .one (.v (.int .i64 k))], [.box t [.v (.int .i64 p), .own 1], .mp 132 (.pr (.sl 2 (.int .i64)) (.int .i64)) z l] =>
    .need (p ≠ 0 ∧ (∀ x ∈ (ts : TermL), x.1.length < 1099511627776) ∧ (l : MapL).length + (ts : TermL).length ≤ 1099511627776 ∧ z = (([], 0) : List Int × Int)) (.ret (.val (.one (.ptr 0 0))) [.box t [.v (.int .i64 p), .own 1], .mp 132 (.pr (.sl 2 (.int .i64)) (.int .i64)) z (gAll p l k ts)])
  | _, _ => .fail
set_option maxHeartbeats 4000000 in
set_option maxRecDepth 100000 in
theorem good_gAll : Good Tryz.prog 162 sp_gAll := by
  refine good_ofF Tryz.func162 rfl _ rfl _ rfl (tab [c_gAdd]) (fun X cs os0 K hok hos hK => ?_)
  unfold sp_gAll at hK
  split at hK
  case h_2 => exact hK.elim
  rename_i q ts k t p z l
  refine ⟨by simp, by simp, ?_⟩
  simp only [go_sem] at hK hok hos
  simp (maxSteps := 4000000) only [go_sem, Tryz.f162, ↓brB_t, ↓brB_f, Nat.reduceAdd, Int.reduceLE, Int.reduceLT, Int.reduceNeg, decide_true, decide_false, Bool.and_self, Nat.succ_eq_add_one, Int.toNat_natCast, Nat.beq_refl, Bool.and_true, Bool.true_and, Bool.false_or, Bool.or_true, List.all_cons, List.all_nil, Nat.reduceMul, Nat.add_zero, Nat.zero_add, List.length_nil, List.length_cons, dite_true, List.nil_append, Nat.reduceBEq, reduceDIte, reduceIte, reduceCtorEq, Bool.or_false, Bool.true_or, Bool.and_false, Bool.false_and, Bool.not_true, Bool.not_false, Option.isSome_some, Option.isSome_none, Option.getD_some, List.getElem?_cons_zero, List.getElem?_cons_succ, eq_self, and_self, List.take_succ_cons, List.take_zero, List.drop_succ_cons, List.drop_zero]
  obtain ⟨⟨hp, hw, hl, rfl⟩, hK⟩ := hK
  clear hok hos
  refine loop_okF (T := tab [c_gAdd]) [0, 2, 10, 11, 12] [(0, 0), (1, 1)] (fun i : Nat => ⟨26, [(0, .val (.one (.ptr 0 0))), (2, vi k), (10, .val (.one (.ro kTerm ts))), (11, vi (ts.length : Nat)), (12, vi i)], [(0, .box t [.v (.int .i64 p), .own 1]), (1, oM (gAll p l k (ts.take i)))]⟩)
    (fun i => i ≤ ts.length) (fun i => ts.length - i) 0 rfl rfl (Nat.zero_le _) (fun i hi => ?_)
  have hgl := gAll_len p l k (ts.take i)
  have htl : (ts.take i).length = i := by rw [List.length_take]; omega
  simp only [go_sem, ↓brB_t, ↓brB_f, Nat.reduceAdd, Int.reduceLE, Int.reduceLT, Int.reduceNeg, decide_true, decide_false, Bool.and_self, Nat.succ_eq_add_one, Int.toNat_natCast, Nat.beq_refl, Bool.and_true, Bool.true_and, Bool.false_or, Bool.or_true, List.all_cons, List.all_nil, Nat.reduceMul, Nat.add_zero, Nat.zero_add, List.length_nil, List.length_cons, dite_true, List.nil_append, Nat.reduceBEq, reduceDIte, reduceIte, reduceCtorEq, Bool.or_false, Bool.true_or, Bool.and_false, Bool.false_and, Bool.not_true, Bool.not_false, Option.isSome_some, Option.isSome_none, Option.getD_some, List.getElem?_cons_zero, List.getElem?_cons_succ, eq_self, and_self, List.take_succ_cons, List.take_zero, List.drop_succ_cons, List.drop_zero]
  refine brB_intro (fun h1 => ?_) (fun h1 => retN [0, 1] rfl ?_)
  · have h1 := of_decide_eq_true h1
    have hs := gAll_s (p := p) (l := l) (k := k) (ts := ts) (i := i) (by omega)
    have hw1 : w64 ((i : Int) + 1) = ((i + 1 : Nat) : Int) := w64_s (n := ts.length) (by omega) (by omega)
    refine ⟨⟨by omega, by omega⟩, ⟨hp, hw _ (getD_memT (show i < ts.length by omega)), by omega, trivial⟩, i + 1, [(0, 0), (1, 1)], by omega, by omega, rfl, ?_⟩
    rw [hw1, hs]; rfl
  · have h1 := of_decide_eq_false h1
    have e : i = ts.length := by omega
    rw [e, List.take_length]; exact hK
def c_gAll : Ctr Tryz.prog := ⟨162, ent Tryz.func162 rfl rfl, [true, false, false], sp_gAll, good_gAll, [false, true]⟩
@[go_sem] theorem c_gAll_f : c_gAll.f = 162 := rfl
@[go_sem] theorem c_gAll_ms : c_gAll.ms = [true, false, false] := rfl
@[go_sem] theorem c_gAll_sp : c_gAll.spec = sp_gAll := rfl
@[go_sem] theorem c_gAll_fz : c_gAll.fz = [false, true] := rfl
attribute [go_sem] sp_gAll
end Go.Proofs.YthfmlelodmcgkaaGreat.V
namespace Go.Proofs.YthfmlelodmcgkaaGreat.V
open Go
def nzT (l : MapL) : TermL := (l.map (·.2)).filter fun x => !decide (x.2 = 0)
theorem nzT_mem {l : MapL} {x : List Int × Int} (h : x ∈ nzT l) : ∃ y ∈ l, y.2 = x := by
  obtain ⟨y, hy, e⟩ := List.mem_map.1 (List.mem_filter.1 h).1
  exact ⟨y, hy, e⟩
theorem nzT_nodup {l : MapL} (h : (l.map (·.2.1)).Nodup) : ((nzT l).map (·.1)).Nodup := by
  have : ((nzT l).map (·.1)).Sublist (l.map (·.2.1)) := by
    have := (List.filter_sublist (p := fun x : List Int × Int => !decide (x.2 = 0)) (l := l.map (·.2))).map (·.1)
    rw [List.map_map] at this
    exact this
  exact List.Sublist.nodup this h
theorem erase_perm {α : Type} : ∀ (l : List α) (j : Nat) (h : j < l.length), l.Perm (l[j] :: l.eraseIdx j)
  | x :: l, 0, _ => List.Perm.refl _
  | x :: l, j + 1, h => by
    have := erase_perm l j (by simpa using h)
    simp only [List.getElem_cons_succ, List.eraseIdx_cons_succ]
    exact (this.cons x).trans (List.Perm.swap ..)
theorem nzT_erase {l : MapL} {j : Nat} (h : j < l.length) : (nzT l).Perm (if (l.getD j (ByteArray.empty, ([], 0))).2.2 = 0 then nzT (l.eraseIdx j) else (l.getD j (ByteArray.empty, ([], 0))).2 :: nzT (l.eraseIdx j)) := by
  have e : l.getD j (ByteArray.empty, ([], 0)) = l[j] := by rw [List.getD_eq_getElem?_getD, List.getElem?_eq_getElem h]; rfl
  rw [e]
  have hp : l.Perm (l[j] :: l.eraseIdx j) := erase_perm l j h
  have := (hp.map (·.2)).filter (fun x => !decide (x.2 = 0))
  unfold nzT
  refine this.trans ?_
  rw [List.map_cons, List.filter_cons]
  split
  · rename_i h1
    rw [if_neg (by simpa using h1)]
  · rename_i h1
    rw [if_pos (by simpa using h1)]
def sp_gSum : List Cv → List Obj' → Tree
  | [.one (.ptr 0 0)], [.box t [.v (.int .i64 p), .own 1], .mp 132 (.pr (.sl 2 (.int .i64)) (.int .i64)) z l] =>
    .need ((l : MapL).length ≤ 1000000 ∧ (∀ x ∈ (l : MapL), x.2.1.length < 1099511627776) ∧ ((l : MapL).map (·.2.1)).Nodup) (.ret (.val (.agg [.v (.int .i64 p), .own 2])) [.box t [.v (.int .i64 p), .own 1], .dead, .drow 87 (.pr (.sl 2 (.int .i64)) (.int .i64)) (sortT (nzT l))])
  | _, _ => .fail
set_option maxHeartbeats 4000000 in
set_option maxRecDepth 100000 in
theorem good_gSum : Good Tryz.prog 124 sp_gSum := by
  refine good_ofF Tryz.func124 rfl _ rfl _ rfl (tab [c_clone, c_sortT]) (fun X cs os0 K hok hos hK => ?_)
  unfold sp_gSum at hK
  split at hK
  case h_2 => exact hK.elim
  rename_i t p z l
  refine ⟨by simp, by simp, ?_⟩
  simp only [go_sem] at hK hok hos
  simp (maxSteps := 4000000) only [go_sem, Tryz.f124, ↓brB_t, ↓brB_f, Nat.reduceAdd, Int.reduceLE, Int.reduceLT, Int.reduceNeg, decide_true, decide_false, Bool.and_self, Nat.succ_eq_add_one, Int.toNat_natCast, Nat.beq_refl, Bool.and_true, Bool.true_and, Bool.false_or, Bool.or_true, List.all_cons, List.all_nil, Nat.reduceMul, Nat.add_zero, Nat.zero_add, List.length_nil, List.length_cons, dite_true, List.nil_append, Nat.reduceBEq, reduceDIte, reduceIte, reduceCtorEq, Bool.or_false, Bool.true_or, Bool.and_false, Bool.false_and, Bool.not_true, Bool.not_false, Option.isSome_some, Option.isSome_none, Option.getD_some, List.getElem?_cons_zero, List.getElem?_cons_succ, eq_self, and_self, List.take_succ_cons, List.take_zero, List.drop_succ_cons, List.drop_zero]
  obtain ⟨⟨hl, hw, hn⟩, hK⟩ := hK
  clear hok hos
  refine holds_sub (sub_mat (ms := [⟨.cell 64 1, 19, tI, kTerm⟩]) rfl) ?_
  refine loop_okF (T := tab [c_clone, c_sortT]) [2, 3, 15] [(0, 0), (1, 1), (16, 48), (17, 64), (18, 256), (19, 19)] (fun s : TermL × MapL × Option (ByteArray × (List Int × Int)) => ⟨38, [(2, .val (.one (.ptr 16 0))), (3, .val (.one (.ptr 17 0))), (15, .val (.one (.ptr 18 0)))],
      [(0, .box t [.v (.int .i64 p), .own 1]), (1, .dead), (16, .box 31 [.v (.int .i64 0), .v (.slice none 0 0)]), (17, .box 31 [.v (.int .i64 p), .own 19]), (18, .mit kTerm s.2.1 s.2.2), (19, .drow tI kTerm s.1)]⟩)
    (fun s => (s.1 ++ nzT s.2.1).Perm (nzT l) ∧ s.1.length + s.2.1.length ≤ l.length ∧ ∀ x ∈ s.2.1, x ∈ (l : MapL)) (fun s => s.2.1.length) ([], l, none) rfl rfl ⟨by simp, by simp, fun x hx => hx⟩ (fun s hs => ?_)
  obtain ⟨out, rem, cur⟩ := s
  obtain ⟨h1, h2, h3⟩ := hs
  simp only at h1 h2 h3
  simp only [go_sem, ↓brB_t, ↓brB_f, Nat.reduceAdd, Int.reduceLE, Int.reduceLT, Int.reduceNeg, decide_true, decide_false, Bool.and_self, Nat.succ_eq_add_one, Int.toNat_natCast, Nat.beq_refl, Bool.and_true, Bool.true_and, Bool.false_or, Bool.or_true, List.all_cons, List.all_nil, Nat.reduceMul, Nat.add_zero, Nat.zero_add, List.length_nil, List.length_cons, dite_true, List.nil_append, Nat.reduceBEq, reduceDIte, reduceIte, reduceCtorEq, Bool.or_false, Bool.true_or, Bool.and_false, Bool.false_and, Bool.not_true, Bool.not_false, Option.isSome_some, Option.isSome_none, Option.getD_some, List.getElem?_cons_zero, List.getElem?_cons_succ, eq_self, and_self, List.take_succ_cons, List.take_zero, List.drop_succ_cons, List.drop_zero]
  have hout : ∀ x ∈ out, x ∈ nzT l := fun x hx => h1.mem_iff.1 (List.mem_append_left _ hx)
  have hnz := nzT_nodup hn
  refine brB_intro (fun h4 => ?_) (fun h4 j hj => ?_)
  · have hr : rem = [] := by simpa using h4
    subst hr
    have h1 : out.Perm (nzT l) := by simpa [nzT] using h1
    have hs : sortT out = sortT (nzT l) := sortT_eq (sortT_sorted hnz) ((h1.map _).nodup_iff.2 hnz) fun x => (h1.mem_iff).trans sortT_mem.symm
    refine ⟨⟨trivial, by omega, fun x hx => ?_, (h1.map _).nodup_iff.2 hnz⟩, retN [0, 1, 19] rfl ?_⟩
    · obtain ⟨y, hy, rfl⟩ := nzT_mem (hout x hx)
      exact Nat.le_of_lt (hw y hy)
    · rw [hs]; exact hK
  · have e : rem[j]? = some (rem.getD j (ByteArray.empty, ([], 0))) := by rw [List.getD_eq_getElem?_getD, List.getElem?_eq_getElem hj]; rfl
    have hm : rem.getD j (ByteArray.empty, ([], 0)) ∈ rem := by
      rw [List.getD_eq_getElem?_getD, List.getElem?_eq_getElem hj]; exact List.getElem_mem _
    have hp := nzT_erase hj
    have hwx := hw _ (h3 _ hm)
    have hel := List.length_eraseIdx_of_lt hj
    have hee : ∀ x ∈ rem.eraseIdx j, x ∈ (l : MapL) := fun x hx => h3 x (List.mem_of_mem_eraseIdx hx)
    rw [e]
    generalize rem.getD j (ByteArray.empty, ([], 0)) = y at *
    simp only [go_sem, ↓brB_t, ↓brB_f, Nat.reduceAdd, Int.reduceLE, Int.reduceLT, Int.reduceNeg, decide_true, decide_false, Bool.and_self, Nat.succ_eq_add_one, Int.toNat_natCast, Nat.beq_refl, Bool.and_true, Bool.true_and, Bool.false_or, Bool.or_true, List.all_cons, List.all_nil, Nat.reduceMul, Nat.add_zero, Nat.zero_add, List.length_nil, List.length_cons, dite_true, List.nil_append, Nat.reduceBEq, reduceDIte, reduceIte, reduceCtorEq, Bool.or_false, Bool.true_or, Bool.and_false, Bool.false_and, Bool.not_true, Bool.not_false, Option.isSome_some, Option.isSome_none, Option.getD_some, List.getElem?_cons_zero, List.getElem?_cons_succ, eq_self, and_self, List.take_succ_cons, List.take_zero, List.drop_succ_cons, List.drop_zero]
    refine brB_intro (fun h5 => ?_) (fun h5 => ?_)
    · rw [if_neg (of_decide_eq_false (snb h5))] at hp
      refine ⟨hwx, by omega, by kernel_rfl, (out ++ [y.2], rem.eraseIdx j, some y), [(0, 0), (1, 1), (16, 16), (17, 17), (18, 18), (19, 528)], ⟨?_, ?_, hee⟩, ?_, rfl, rfl⟩
      · refine List.Perm.trans ?_ ((hp.symm.append_left out).trans h1)
        rw [List.append_assoc]
        exact List.Perm.refl _
      · show (out ++ [y.2]).length + (rem.eraseIdx j).length ≤ _
        rw [List.length_append, List.length_singleton]
        omega
      · show (rem.eraseIdx j).length < rem.length
        omega
    · rw [if_pos (of_decide_eq_true (snb' h5))] at hp
      refine ⟨(out, rem.eraseIdx j, some y), [(0, 0), (1, 1), (16, 16), (17, 17), (18, 18), (19, 19)], ⟨(hp.symm.append_left out).trans h1, ?_, hee⟩, ?_, rfl, rfl⟩
      · show out.length + (rem.eraseIdx j).length ≤ _
        omega
      · show (rem.eraseIdx j).length < rem.length
        omega
def c_gSum : Ctr Tryz.prog := ⟨124, ent Tryz.func124 rfl rfl, [true], sp_gSum, good_gSum, []⟩
@[go_sem] theorem c_gSum_f : c_gSum.f = 124 := rfl
@[go_sem] theorem c_gSum_ms : c_gSum.ms = [true] := rfl
@[go_sem] theorem c_gSum_sp : c_gSum.spec = sp_gSum := rfl
@[go_sem] theorem c_gSum_fz : c_gSum.fz = [] := rfl
attribute [go_sem] sp_gSum
end Go.Proofs.YthfmlelodmcgkaaGreat.V
namespace Go.Proofs.YthfmlelodmcgkaaGreat.V
open Go
def smB (w : List Int) : Prop := w.length ≤ 24 ∧ ∀ x ∈ w, 0 ≤ x ∧ x < 100
theorem sm_of {w : List Int} (h : isW w = true) : smB w := by
  rw [Go.Proofs.YthfmlelodmcgkaaGreat.L.isW_eq] at h
  obtain ⟨h1, h2⟩ := Go.Proofs.YthfmlelodmcgkaaGreat.L.word_range h
  exact ⟨by omega, fun x hx => by have := h2 x hx; omega⟩
theorem letter_small {x : Int} (h0 : 0 ≤ x) (h1 : x < 100) : letter x = 97 + x := by unfold letter; omega
theorem bytesS_data (l : List Int) : (bytesS l).data.toList = l.map fun n => UInt8.ofNat n.toNat := by
  have h : ∀ (l : List Int) (r : ByteArray), (l.foldl (fun r n => r.push (UInt8.ofNat n.toNat)) r).data.toList = r.data.toList ++ l.map fun n => UInt8.ofNat n.toNat := fun l => by
    induction l with
    | nil => intro r; simp
    | cons x l ih =>
      intro r
      rw [List.foldl_cons, ih]
      cases r
      simp [ByteArray.push]
  unfold bytesS
  rw [h]
  simp
theorem textB_inj : ∀ {a b : List Int}, smB a → smB b → textB a = textB b → a = b := by
  intro a b ha0 hb0 h0
  have h := congrArg (fun s : ByteArray => s.data.toList) h0
  unfold textB at h
  simp only [bytesS_data, List.map_map] at h
  have ha := ha0.2
  have hb := hb0.2
  clear ha0 hb0 h0
  induction a generalizing b with
  | nil =>
    cases b with
    | nil => rfl
    | cons _ _ => simp at h
  | cons x a ih =>
    cases b with
    | nil => simp at h
    | cons y b =>
      simp only [List.map_cons, List.cons.injEq] at h
      obtain ⟨h1, h2⟩ := h
      rw [ih h2 (fun z hz => ha z (List.mem_cons_of_mem _ hz)) (fun z hz => hb z (List.mem_cons_of_mem _ hz))]
      obtain ⟨a0, a1⟩ := ha x List.mem_cons_self
      obtain ⟨b0, b1⟩ := hb y List.mem_cons_self
      have e := congrArg UInt8.toNat h1
      simp only [Function.comp, letter_small a0 a1, letter_small b0 b1, UInt8.toNat_ofNat'] at e
      congr 1
      omega
structure GRep (l : MapL) (c : List Int → Int) : Prop where
  nodup : (l.map (·.1)).Nodup
  key : ∀ x ∈ l, x.1 = textB x.2.1 ∧ smB x.2.1
  val : ∀ w, smB w → gAt l w = c w
theorem find_mem {l : MapL} {s : ByteArray} {x : List Int × Int} (h : findK l s = some x) : (s, x) ∈ l := by
  induction l with
  | nil => cases h
  | cons p r ih =>
    unfold findK at h
    split at h
    · rename_i e
      injection h with h
      rw [← e, ← h]
      exact List.mem_cons_self
    · exact List.mem_cons_of_mem _ (ih h)
theorem find_of {l : MapL} {s : ByteArray} {x : List Int × Int} (hn : (l.map (·.1)).Nodup) (h : (s, x) ∈ l) : findK l s = some x := by
  induction l with
  | nil => cases h
  | cons p r ih =>
    simp only [List.map_cons, List.nodup_cons] at hn
    unfold findK
    rcases List.mem_cons.1 h with rfl | h
    · rw [if_pos rfl]
    · rw [if_neg (fun e => hn.1 (by rw [e]; exact List.mem_map.2 ⟨_, h, rfl⟩))]
      exact ih hn.2 h
theorem find_put (l : MapL) (s s' : ByteArray) (x : List Int × Int) : findK (putK l s x) s' = if s = s' then some x else findK l s' := by
  induction l with
  | nil =>
    simp only [putK, findK]
  | cons p r ih =>
    unfold putK
    by_cases h : p.1 = s
    · rw [if_pos h]
      simp only [findK, h]
      split <;> rfl
    · rw [if_neg h]
      simp only [findK, ih]
      by_cases h2 : p.1 = s'
      · rw [if_pos h2, if_neg (fun e => h (h2.trans e.symm)), if_pos h2]
      · rw [if_neg h2, if_neg h2]
theorem mem_put {l : MapL} {s : ByteArray} {x : List Int × Int} {y : ByteArray × (List Int × Int)} (h : y ∈ putK l s x) : y = (s, x) ∨ y ∈ l := by
  induction l with
  | nil => simpa [putK] using h
  | cons p r ih =>
    unfold putK at h
    split at h
    · rcases List.mem_cons.1 h with h | h
      · exact .inl h
      · exact .inr (List.mem_cons_of_mem _ h)
    · rcases List.mem_cons.1 h with h | h
      · exact .inr (h ▸ List.mem_cons_self)
      · exact (ih h).imp id (List.mem_cons_of_mem _)
def cAdd (p : Int) (c : List Int → Int) (w : List Int) (v : Int) : List Int → Int := fun u => if u = w then modI p (w64 (c w + v)) else c u
theorem GRep.nil : GRep [] fun _ => 0 := ⟨List.nodup_nil, (fun _ h => by cases h), fun _ _ => rfl⟩
theorem GRep.add {l : MapL} {c : List Int → Int} (h : GRep l c) (p : Int) {w : List Int} (hw : smB w) (v : Int) : GRep (gAdd p l w v) (cAdd p c w v) := by
  refine ⟨putK_nodup h.nodup, fun x hx => ?_, fun u hu => ?_⟩
  · rcases mem_put hx with rfl | hx
    · exact ⟨rfl, hw⟩
    · exact h.key x hx
  · unfold gAt gAdd cAdd
    rw [find_put]
    by_cases e : u = w
    · subst e
      rw [if_pos rfl, if_pos rfl, ← h.val u hu]
      rfl
    · rw [if_neg (fun h => e (textB_inj hw hu h).symm), if_neg e]
      exact h.val u hu
theorem GRep.words {l : MapL} {c : List Int → Int} (h : GRep l c) : (l.map (·.2.1)).Nodup := by
  have hn := h.nodup
  have hk := h.key
  clear h
  induction l with
  | nil => exact List.nodup_nil
  | cons x l ih =>
    simp only [List.map_cons, List.nodup_cons] at hn ⊢
    refine ⟨fun hm => hn.1 ?_, ih hn.2 (fun y hy => hk y (List.mem_cons_of_mem _ hy))⟩
    obtain ⟨y, hy, e⟩ := List.mem_map.1 hm
    rw [(hk x List.mem_cons_self).1, ← e, ← (hk y (List.mem_cons_of_mem _ hy)).1]
    exact List.mem_map.2 ⟨y, hy, rfl⟩
theorem GRep.mem {l : MapL} {c : List Int → Int} (h : GRep l c) (x : List Int × Int) : x ∈ nzT l ↔ smB x.1 ∧ x.2 = c x.1 ∧ x.2 ≠ 0 := by
  constructor
  · intro hx
    have h0 : x.2 ≠ 0 := by simpa using (List.mem_filter.1 hx).2
    obtain ⟨y, hy, rfl⟩ := nzT_mem hx
    obtain ⟨k1, k2⟩ := h.key y hy
    refine ⟨k2, ?_, h0⟩
    have : findK l (textB y.2.1) = some y.2 := find_of h.nodup (by rw [← k1]; exact hy)
    rw [← h.val _ k2, gAt, this]; rfl
  · rintro ⟨h1, h2, h3⟩
    have hv := h.val x.1 h1
    unfold gAt at hv
    cases e : findK l (textB x.1) with
    | none =>
      rw [e] at hv
      exact absurd (h2.trans hv.symm) h3
    | some y =>
      rw [e] at hv
      have hm := find_mem e
      obtain ⟨k1, k2⟩ := h.key _ hm
      have ey : y.1 = x.1 := (textB_inj h1 k2 k1).symm
      have e2 : y = x := by
        have hv : y.2 = c x.1 := hv
        have : y.2 = x.2 := hv.trans h2.symm
        cases y; cases x; simp_all
      rw [e2] at hm
      exact List.mem_filter.2 ⟨List.mem_map.2 ⟨_, hm, rfl⟩, by simpa using h3⟩
structure SRep (ts : TermL) (c : List Int → Int) : Prop where
  sorted : SortedT ts
  mem : ∀ x, x ∈ ts ↔ smB x.1 ∧ x.2 = c x.1 ∧ x.2 ≠ 0
theorem SRep.nil : SRep [] fun _ => 0 := ⟨List.Pairwise.nil, fun x => ⟨(fun h => by cases h), fun h => absurd h.2.1 h.2.2⟩⟩
theorem GRep.sum {l : MapL} {ts : TermL} {c : List Int → Int} (h : GRep l c) (k : SRep ts c) : sortT (nzT l) = ts :=
  sortT_eq k.sorted (nzT_nodup h.words) fun x => (h.mem x).trans (k.mem x).symm
theorem at_mem : ∀ {ts : TermL} {x : List Int × Int}, SortedT ts → x ∈ ts → atT ts x.1 = x.2
  | y :: ts, x, hs, hx => by
    obtain ⟨h1, h2⟩ := List.pairwise_cons.1 hs
    rw [atT]
    rcases List.mem_cons.1 hx with rfl | hx
    · rw [if_pos rfl]
    · rw [if_neg (fun e => by have := h1 x hx; rw [e, before_irrefl] at this; cases this)]
      exact at_mem h2 hx
theorem at_none : ∀ {ts : TermL} {w : List Int}, (∀ x ∈ ts, x.1 ≠ w) → atT ts w = 0
  | [], _, _ => rfl
  | y :: ts, w, h => by
    rw [atT, if_neg (h y List.mem_cons_self)]
    exact at_none fun x hx => h x (List.mem_cons_of_mem _ hx)
theorem SRep.at {ts : TermL} {c : List Int → Int} (h : SRep ts c) {w : List Int} (hw : smB w) : atT ts w = c w := by
  by_cases e : c w = 0
  · rw [e]
    refine at_none fun x hx ex => ?_
    obtain ⟨_, h2, h3⟩ := (h.mem x).1 hx
    rw [ex, e] at h2
    exact h3 h2
  · exact at_mem (x := (w, c w)) h.sorted ((h.mem (w, c w)).2 ⟨hw, rfl, e⟩)
def insV (w : List Int) (v : Int) : TermL → TermL
  | [] => [(w, v)]
  | x :: r => if beforeB w x.1 = true then (w, v) :: (x :: r).filter (fun y => !decide (y.1 = w)) else if x.1 = w then insV w v r else x :: insV w v r
theorem foldT (w : List Int) (v : Int) : ∀ (ts acc : TermL), ts.foldl (fun s x => jB w (jA w v s x) x) (acc, true) = (acc ++ ts.filter (fun y => !decide (y.1 = w)), true)
  | [], acc => by simp
  | x :: r, acc => by
    rw [List.foldl_cons]
    have e : jB w (jA w v (acc, true) x) x = (acc ++ (if x.1 = w then [] else [x]), true) := by
      unfold jB jA
      simp only [Bool.not_true, Bool.false_and, Bool.false_eq_true, if_false]
      split <;> simp
    rw [e, foldT w v r]
    rw [List.filter_cons]
    by_cases h : x.1 = w
    · simp [h]
    · simp [h]
theorem foldF (w : List Int) (v : Int) : ∀ (ts acc : TermL), jE w v (ts.foldl (fun s x => jB w (jA w v s x) x) (acc, false)) = acc ++ insV w v ts
  | [], acc => by simp [jE, insV]
  | x :: r, acc => by
    rw [List.foldl_cons]
    by_cases h : beforeB w x.1 = true
    · have hne : ¬ x.1 = w := fun e => by rw [e, before_irrefl] at h; cases h
      have e : jB w (jA w v (acc, false) x) x = (acc ++ [(w, v)] ++ [x], true) := by
        unfold jB jA
        simp only [Bool.not_false, Bool.true_and, h, if_true, if_neg hne]
      rw [e, foldT, jE, if_pos rfl, insV, if_pos h, List.filter_cons]
      simp [hne]
    · by_cases h2 : x.1 = w
      · have e : jB w (jA w v (acc, false) x) x = (acc, false) := by
          unfold jB jA
          simp only [Bool.not_false, Bool.true_and, h, if_pos h2]
          rfl
        rw [e, foldF w v r, insV, if_neg h, if_pos h2]
      · have e : jB w (jA w v (acc, false) x) x = (acc ++ [x], false) := by
          unfold jB jA
          simp only [Bool.not_false, Bool.true_and, h, if_neg h2]
          rfl
        rw [e, foldF w v r, insV, if_neg h, if_neg h2]
        simp
theorem jT_ins (p : Int) (ts : TermL) (w : List Int) (v : Int) : jT p ts w v = if modI p (w64 (v + atT ts w)) = 0 then ts.filter (fun y => !decide (y.1 = w)) else insV w (modI p (w64 (v + atT ts w))) ts := by
  unfold jT jF
  generalize modI p (w64 (v + atT ts w)) = v'
  by_cases h : v' = 0
  · rw [if_pos h, decide_eq_true h, foldT, jE, if_pos rfl, List.nil_append]
  · rw [if_neg h, decide_eq_false h, foldF, List.nil_append]
theorem ins_mem {w : List Int} {v : Int} {y : List Int × Int} : ∀ {ts : TermL}, SortedT ts → (y ∈ insV w v ts ↔ y = (w, v) ∨ (y ∈ ts ∧ y.1 ≠ w))
  | [], _ => by simp [insV]
  | x :: r, hs => by
    obtain ⟨h1, h2⟩ := List.pairwise_cons.1 hs
    unfold insV
    split
    · simp
    · split
      · rename_i e
        rw [ins_mem h2, List.mem_cons]
        constructor
        · rintro (h | ⟨h, k⟩)
          · exact .inl h
          · exact .inr ⟨.inr h, k⟩
        · rintro (h | ⟨h | h, k⟩)
          · exact .inl h
          · exact absurd (h ▸ e) k
          · exact .inr ⟨h, k⟩
      · rename_i e
        rw [List.mem_cons, ins_mem h2, List.mem_cons]
        constructor
        · rintro (h | h | ⟨h, k⟩)
          · exact .inr ⟨.inl h, h ▸ e⟩
          · exact .inl h
          · exact .inr ⟨.inr h, k⟩
        · rintro (h | ⟨h | h, k⟩)
          · exact .inr (.inl h)
          · exact .inl h
          · exact .inr (.inr ⟨h, k⟩)
theorem ins_sorted {w : List Int} {v : Int} : ∀ {ts : TermL}, SortedT ts → SortedT (insV w v ts)
  | [], _ => List.pairwise_singleton ..
  | x :: r, hs => by
    obtain ⟨h1, h2⟩ := List.pairwise_cons.1 hs
    unfold insV
    split
    · rename_i h
      refine List.pairwise_cons.2 ⟨fun y hy => ?_, hs.filter _⟩
      rcases List.mem_cons.1 (List.mem_filter.1 hy).1 with rfl | hy
      · exact h
      · exact before_trans h (h1 y hy)
    · rename_i h
      split
      · exact ins_sorted h2
      · rename_i e
        refine List.pairwise_cons.2 ⟨fun y hy => ?_, ins_sorted h2⟩
        rcases (ins_mem h2).1 hy with rfl | ⟨hy, _⟩
        · exact before_of (by simpa using h) e
        · exact h1 y hy
theorem SRep.put {ts : TermL} {c : List Int → Int} (h : SRep ts c) (p : Int) {w : List Int} (hw : smB w) (v : Int) : SRep (jT p ts w v) (cAdd p c w v) := by
  rw [jT_ins, h.at hw, Int.add_comm v]
  by_cases e : modI p (w64 (c w + v)) = 0
  · rw [if_pos e]
    refine ⟨h.sorted.filter _, fun x => ?_⟩
    rw [List.mem_filter, h.mem]
    unfold cAdd
    constructor
    · rintro ⟨⟨k1, k2, k3⟩, k4⟩
      have k4 : x.1 ≠ w := by simpa using k4
      rw [if_neg k4]
      exact ⟨k1, k2, k3⟩
    · rintro ⟨k1, k2, k3⟩
      by_cases ew : x.1 = w
      · rw [if_pos ew, e] at k2
        exact absurd k2 k3
      · rw [if_neg ew] at k2
        exact ⟨⟨k1, k2, k3⟩, by simpa using ew⟩
  · rw [if_neg e]
    refine ⟨ins_sorted h.sorted, fun x => ?_⟩
    rw [ins_mem h.sorted, h.mem]
    unfold cAdd
    constructor
    · rintro (rfl | ⟨⟨k1, k2, k3⟩, k4⟩)
      · exact ⟨hw, by rw [if_pos rfl], e⟩
      · rw [if_neg k4]
        exact ⟨k1, k2, k3⟩
    · rintro ⟨k1, k2, k3⟩
      by_cases ew : x.1 = w
      · rw [if_pos ew] at k2
        refine .inl ?_
        cases x
        simp only at ew k2
        rw [ew, k2]
      · rw [if_neg ew] at k2
        exact .inr ⟨⟨k1, k2, k3⟩, ew⟩
end Go.Proofs.YthfmlelodmcgkaaGreat.V
end
section
namespace Go.Proofs.YthfmlelodmcgkaaGreat.V
open Go
def cF (p : Int) (c : List Int → Int) (ts : TermL) : List Int → Int := ts.foldl (fun c x => cAdd p c x.1 x.2) c
theorem cF_s (p : Int) (c : List Int → Int) (ts : TermL) (x : List Int × Int) : cF p c (ts ++ [x]) = cAdd p (cF p c ts) x.1 x.2 := by rw [cF, List.foldl_append]; rfl
theorem cF_app (p : Int) (c : List Int → Int) (a b : TermL) : cF p c (a ++ b) = cF p (cF p c a) b := by rw [cF, List.foldl_append]; rfl
def jS (p : Int) (ts : TermL) : TermL := ts.foldl (fun us x => jT p us x.1 x.2) []
theorem jS_s (p : Int) (ts : TermL) (x : List Int × Int) : jS p (ts ++ [x]) = jT p (jS p ts) x.1 x.2 := by rw [jS, List.foldl_append]; rfl
theorem snoc_ind {q : TermL → Prop} (h0 : q []) (h1 : ∀ a x, q a → q (a ++ [x])) (a : TermL) : q a := by
  have h : ∀ b : TermL, q b.reverse := fun b => by
    induction b with
    | nil => exact h0
    | cons x b ih => rw [List.reverse_cons]; exact h1 _ _ ih
  have := h a.reverse
  rwa [List.reverse_reverse] at this
theorem jS_rep (p : Int) (ts : TermL) (h : ∀ x ∈ ts, smB x.1) : SRep (jS p ts) (cF p (fun _ => 0) ts) := by
  revert h
  refine snoc_ind (q := fun ts => (∀ x ∈ ts, smB x.1) → SRep (jS p ts) (cF p (fun _ => 0) ts)) (fun _ => SRep.nil) (fun a x ih h => ?_) ts
  rw [jS_s, cF_s]
  exact (ih fun y hy => h y (List.mem_append_left _ hy)).put p (h x (List.mem_append_right _ (List.mem_singleton.2 rfl))) x.2
theorem jS_len (p : Int) (ts : TermL) : (jS p ts).length ≤ ts.length := by
  refine snoc_ind (q := fun ts => (jS p ts).length ≤ ts.length) (Nat.le_refl _) (fun a x ih => ?_) ts
  rw [jS_s, List.length_append, List.length_singleton]
  have := jT_len p (jS p a) x.1 x.2
  omega
theorem jS_q {p : Int} {q : List Int → Prop} {ts : TermL} (h : ∀ x ∈ ts, q x.1) : ∀ x ∈ jS p ts, q x.1 := by
  induction ts using snoc_ind with
  | h0 => intro x hx; cases hx
  | h1 a y ih =>
    rw [jS_s]
    intro x hx
    have ih := ih (fun z hz => h z (List.mem_append_left _ hz))
    rcases jT_mem hx with e | hm
    · rw [e]; exact h y (List.mem_append_right _ (List.mem_singleton.2 rfl))
    · exact ih x hm
abbrev tS' : TypeId := 31
end Go.Proofs.YthfmlelodmcgkaaGreat.V
end
section
namespace Go.Proofs.YthfmlelodmcgkaaGreat.V
open Go
theorem modI_e {p : Int} (h0 : 0 < p) (h1 : p ≤ 1000) (x : Int) : modI p x = x % p := by
  unfold modI
  have h2 : x.tmod p = x % p ∨ x.tmod p = x % p - p := by
    rw [Int.tmod_eq_emod]
    split
    · left; omega
    · right
      have : (p.natAbs : Int) = p := Int.natAbs_of_nonneg (by omega)
      omega
  have h3 := Int.emod_nonneg x (show p ≠ 0 by omega)
  have h4 := Int.emod_lt_of_pos x h0
  rw [w64_id (by omega) (by omega), Int.tmod_eq_emod_of_nonneg (by omega)]
  rcases h2 with h | h <;> rw [h]
  · rw [Int.add_emod_right, Int.emod_emod]
  · rw [Int.sub_add_cancel, Int.emod_emod]
def wS : TermL → List Int → Int
  | [], _ => 0
  | x :: r, u => (if x.1 = u then x.2 else 0) + wS r u
theorem cF_val {p : Int} (h0 : 0 < p) (h1 : p ≤ 1000) : ∀ (ts : TermL) (c : List Int → Int), (∀ x ∈ ts, -1000000 ≤ x.2 ∧ x.2 ≤ 1000000) → (∀ u, 0 ≤ c u ∧ c u < p) → ∀ u, cF p c ts u = (c u + wS ts u) % p
  | [], c, _, hc, u => by
    have := hc u
    rw [wS, Int.add_zero, Int.emod_eq_of_lt this.1 this.2]; rfl
  | x :: ts, c, hx, hc, u => by
    have e : ∀ v, cAdd p c x.1 x.2 v = if v = x.1 then (c x.1 + x.2) % p else c v := fun v => by
      have := hc x.1
      have := hx x List.mem_cons_self
      unfold cAdd
      rw [modI_e h0 h1, w64_id (by omega) (by omega)]
    show cF p (cAdd p c x.1 x.2) ts u = _
    rw [cF_val h0 h1 ts _ (fun y hy => hx y (List.mem_cons_of_mem _ hy)) (fun v => by
      rw [e]
      split
      · exact ⟨Int.emod_nonneg _ (by omega), Int.emod_lt_of_pos _ h0⟩
      · exact hc v), e, wS]
    by_cases hu : u = x.1
    · subst hu
      rw [if_pos rfl, if_pos rfl, Int.emod_add_emod, Int.add_assoc]
    · rw [if_neg hu, if_neg (Ne.symm hu), Int.zero_add]
end Go.Proofs.YthfmlelodmcgkaaGreat.V
end
section
namespace Go.Proofs.YthfmlelodmcgkaaGreat.V
open Go
abbrev kSum : Kn := .pr (.int .i64) (.sl 87 kTerm)
abbrev ChT := HT [Kn.sl 2 (.int .i64)] → Option (Int × TermL)
def chS (f : ChT) (w : List Int) : TermL := ((f (w, ())).getD (0, [])).2
def gCh (p : Int) (f : ChT) (ts : TermL) : MapL := ts.foldl (fun l x => gAll p l x.2 (chS f x.1)) []
theorem gCh_s {p : Int} {f : ChT} {ts : TermL} {i : Nat} (h : i < ts.length) : gCh p f (ts.take (i + 1)) = gAll p (gCh p f (ts.take i)) (ts.getD i ([], 0)).2 (chS f (ts.getD i ([], 0)).1) := by
  have e : ts.getD i ([], 0) = ts[i] := by rw [List.getD_eq_getElem?_getD, List.getElem?_eq_getElem h]; rfl
  rw [gCh, List.take_succ_eq_append_getElem h, List.foldl_append, e]; rfl
theorem gCh_len {p : Int} {f : ChT} {ts : TermL} (h : ∀ x ∈ ts, (chS f x.1).length ≤ 100) (i : Nat) : (gCh p f (ts.take i)).length ≤ 100 * i := by
  induction i with
  | zero => simp [gCh]
  | succ i ih =>
    by_cases hi : i < ts.length
    · rw [gCh_s hi]
      have := gAll_len p (gCh p f (ts.take i)) (ts.getD i ([], 0)).2 (chS f (ts.getD i ([], 0)).1)
      have := h _ (getD_memT hi)
      omega
    · rw [List.take_of_length_le (by omega)] at ih ⊢
      omega
def sp_changed : List Cv → List Obj' → Tree
  | [.agg [.v (.int .i64 p), .ro (.pr (.sl 2 (.int .i64)) (.int .i64)) ts], .one (.pf [.sl 2 (.int .i64)] (.pr (.int .i64) (.sl 87 (.pr (.sl 2 (.int .i64)) (.int .i64)))) f)], [] =>
    .need (p ≠ 0 ∧ (ts : TermL).length ≤ 200 ∧ (∀ x ∈ (ts : TermL), (f (x.1, ())).isSome = true ∧ (chS f x.1).length ≤ 100 ∧ ∀ y ∈ chS f x.1, y.1.length < 1099511627776) ∧ ∃ c, GRep (gCh p f ts) c) (.ret (.val (.agg [.v (.int .i64 p), .own 0])) [.drow 87 (.pr (.sl 2 (.int .i64)) (.int .i64)) (sortT (nzT (gCh p f ts)))])
  | _, _ => .fail
set_option maxHeartbeats 4000000 in
set_option maxRecDepth 100000 in
theorem good_changed : Good Tryz.prog 137 sp_changed := by
  refine good_ofF Tryz.func137 rfl _ rfl _ rfl (tab [c_newG, c_gAll, c_gSum]) (fun X cs os0 K hok hos hK => ?_)
  clear hos; unfold sp_changed at hK
  split at hK
  case h_2 => exact hK.elim
  rename_i p ts f
  refine ⟨by simp, by simp, ?_⟩
  simp only [go_sem] at hK hok
  simp (maxSteps := 4000000) only [go_sem, Tryz.f137, ↓brB_t, ↓brB_f, Nat.reduceAdd, Int.reduceLE, Int.reduceLT, Int.reduceNeg, decide_true, decide_false, Bool.and_self, Nat.succ_eq_add_one, Int.toNat_natCast, Nat.beq_refl, Bool.and_true, Bool.true_and, Bool.false_or, Bool.or_true, List.all_cons, List.all_nil, Nat.reduceMul, Nat.add_zero, Nat.zero_add, List.length_nil, List.length_cons, dite_true, List.nil_append, Nat.reduceBEq, reduceDIte, reduceIte, reduceCtorEq, Bool.or_false, Bool.true_or, Bool.and_false, Bool.false_and, Bool.not_true, Bool.not_false, Option.isSome_some, Option.isSome_none, Option.getD_some, List.getElem?_cons_zero, List.getElem?_cons_succ, eq_self, and_self, List.take_succ_cons, List.take_zero, List.drop_succ_cons, List.drop_zero]
  obtain ⟨⟨hp, hl, hw, hg⟩, hK⟩ := hK
  clear hok
  refine loop_okF (T := tab [c_newG, c_gAll, c_gSum]) [1, 4, 5, 12, 13, 14] [(16, 80), (17, 176), (18, 177)] (fun i : Nat => ⟨29, [(1, .val (.one (.pf [.sl 2 (.int .i64)] kSum f))), (4, .val (.one (.ptr 16 0))), (5, .val (.one (.ptr 17 0))), (12, .val (.one (.ro kTerm ts))), (13, vi (ts.length : Nat)), (14, vi i)],
      [(16, .box 31 [.v (.int .i64 0), .v (.slice none 0 0)]), (17, oG p 18), (18, oM (gCh p f (ts.take i)))]⟩)
    (fun i => i ≤ ts.length) (fun i => ts.length - i) 0 rfl rfl (Nat.zero_le _) (fun i hi => ?_)
  have hgl := gCh_len (p := p) (f := f) (fun x hx => (hw x hx).2.1) i
  simp only [go_sem, ↓brB_t, ↓brB_f, Nat.reduceAdd, Int.reduceLE, Int.reduceLT, Int.reduceNeg, decide_true, decide_false, Bool.and_self, Nat.succ_eq_add_one, Int.toNat_natCast, Nat.beq_refl, Bool.and_true, Bool.true_and, Bool.false_or, Bool.or_true, List.all_cons, List.all_nil, Nat.reduceMul, Nat.add_zero, Nat.zero_add, List.length_nil, List.length_cons, dite_true, List.nil_append, Nat.reduceBEq, reduceDIte, reduceIte, reduceCtorEq, Bool.or_false, Bool.true_or, Bool.and_false, Bool.false_and, Bool.not_true, Bool.not_false, Option.isSome_some, Option.isSome_none, Option.getD_some, List.getElem?_cons_zero, List.getElem?_cons_succ, eq_self, and_self, List.take_succ_cons, List.take_zero, List.drop_succ_cons, List.drop_zero]
  refine brB_intro (fun h1 => ?_) (fun h1 => ?_)
  · have h1 := of_decide_eq_true h1
    have hs := gCh_s (p := p) (f := f) (ts := ts) (i := i) (by omega)
    have hw1 : w64 ((i : Int) + 1) = ((i + 1 : Nat) : Int) := w64_s (n := ts.length) (by omega) (by omega)
    obtain ⟨hx1, hx2, hx3⟩ := hw _ (getD_memT (show i < ts.length by omega))
    refine ⟨⟨by omega, by omega⟩, hx1, ⟨hp, hx3, ?_, trivial⟩, by kernel_rfl, i + 1, [(16, 16), (17, 17), (18, 18)], by omega, by omega, rfl, ?_⟩
    · show (gCh p f (ts.take i)).length + (chS f (ts.getD i ([], 0)).1).length ≤ _
      omega
    · rw [hw1, hs]; rfl
  · have h1 := of_decide_eq_false h1
    have e : i = ts.length := by omega
    subst e
    rw [List.take_length] at hgl ⊢
    obtain ⟨c, hc⟩ := hg
    exact ⟨⟨by omega, fun x hx => by have := (hc.key x hx).2.1; omega, hc.words⟩, retN [464] rfl hK⟩
def c_changed : Ctr Tryz.prog := ⟨137, ent Tryz.func137 rfl rfl, [], sp_changed, good_changed, []⟩
@[go_sem] theorem c_changed_f : c_changed.f = 137 := rfl
@[go_sem] theorem c_changed_ms : c_changed.ms = [] := rfl
@[go_sem] theorem c_changed_sp : c_changed.spec = sp_changed := rfl
@[go_sem] theorem c_changed_fz : c_changed.fz = [] := rfl
attribute [go_sem] sp_changed
theorem gAll_rep (p : Int) (k : Int) : ∀ (ts : TermL) (l : MapL) (c : List Int → Int), GRep l c → (∀ x ∈ ts, smB x.1) → GRep (gAll p l k ts) (cF p c (ts.map fun y => (y.1, w64 (y.2 * k))))
  | [], l, c, h, _ => h
  | x :: ts, l, c, h, hw => gAll_rep p k ts _ _ (h.add p (hw x List.mem_cons_self) (w64 (x.2 * k))) (fun y hy => hw y (List.mem_cons_of_mem _ hy))
theorem gCh_rep (p : Int) (f : ChT) : ∀ (ts : TermL) (l : MapL) (c : List Int → Int), GRep l c → (∀ x ∈ ts, ∀ y ∈ chS f x.1, smB y.1) → GRep (ts.foldl (fun l x => gAll p l x.2 (chS f x.1)) l) (cF p c (ts.flatMap fun x => (chS f x.1).map fun y => (y.1, w64 (y.2 * x.2))))
  | [], l, c, h, _ => h
  | x :: ts, l, c, h, hw => by
    rw [List.foldl_cons, List.flatMap_cons, cF_app]
    exact gCh_rep p f ts _ _ (gAll_rep p x.2 _ _ _ h (hw x List.mem_cons_self)) (fun y hy => hw y (List.mem_cons_of_mem _ hy))
end Go.Proofs.YthfmlelodmcgkaaGreat.V
end
section
namespace Go.Proofs.YthfmlelodmcgkaaGreat.V
open Go
theorem isS_2 {p : Int} {ts : TermL} (h : isS p ts = true) : 2 ≤ p ∧ p ≤ 13 := by
  unfold isS at h
  simp only [Bool.and_eq_true] at h
  have h1 := h.1
  simp only [primeB, Bool.or_eq_true, decide_eq_true_eq] at h1
  omega
theorem one_gather {p : Int} (h2 : 2 ≤ p) (hp : p ≤ 1000) (u : List Int) : gAdd p [] u 1 = [(textB u, (u, 1))] := by
  have e : modI p (w64 (gAt [] u + 1)) = 1 := by
    rw [show gAt [] u = 0 from rfl, w64_id (by omega) (by omega), modI_e (by omega) hp]
    exact Int.emod_eq_of_lt (by omega) (by omega)
  rw [gAdd, e]; rfl
theorem one_sorted {p : Int} (h2 : 2 ≤ p) (hp : p ≤ 1000) (u : List Int) : sortT (nzT (gAdd p [] u 1)) = [(u, 1)] := by
  rw [one_gather h2 hp]
  have e : nzT [(textB u, (u, (1 : Int)))] = [(u, 1)] := rfl
  rw [e]
  have := sortT_perm [(u, (1 : Int))]
  exact List.perm_singleton.1 this
def sp_single : List Cv → List Obj' → Tree
  | [.one (.v (.int .i64 p)), .one (.ro (.int .i64) w), .one (.v (.int .i64 v))], [] => .need (p ≠ 0 ∧ w.length < 1099511627776) (.ret (.val (.agg [.v (.int .i64 p), .own 0])) [.drow 87 (.pr (.sl 2 (.int .i64)) (.int .i64)) (sortT (nzT (gAdd p [] w v)))])
  | _, _ => .fail
theorem gAdd_nil (p : Int) (w : List Int) (v : Int) : ∃ z, gAdd p [] w v = [(textB w, (w, z))] := ⟨_, rfl⟩
set_option maxHeartbeats 4000000 in
set_option maxRecDepth 100000 in
theorem good_single : Good Tryz.prog 139 sp_single := by
  refine good_ofF Tryz.func139 rfl _ rfl _ rfl (tab [c_newG, c_gAdd, c_gSum]) (fun X cs os0 K hok hos hK => ?_)
  clear hos; unfold sp_single at hK
  split at hK
  case h_2 => exact hK.elim
  rename_i p w v
  refine ⟨by simp, by simp, ?_⟩
  simp only [go_sem] at hK hok
  simp (maxSteps := 4000000) only [go_sem, Tryz.f139, ↓brB_t, ↓brB_f, Nat.reduceAdd, Int.reduceLE, Int.reduceLT, Int.reduceNeg, decide_true, decide_false, Bool.and_self, Nat.succ_eq_add_one, Int.toNat_natCast, Nat.beq_refl, Bool.and_true, Bool.true_and, Bool.false_or, Bool.or_true, List.all_cons, List.all_nil, Nat.reduceMul, Nat.add_zero, Nat.zero_add, List.length_nil, List.length_cons, dite_true, List.nil_append, Nat.reduceBEq, reduceDIte, reduceIte, reduceCtorEq, Bool.or_false, Bool.true_or, Bool.and_false, Bool.false_and, Bool.not_true, Bool.not_false, Option.isSome_some, Option.isSome_none, Option.getD_some, List.getElem?_cons_zero, List.getElem?_cons_succ, eq_self, and_self, List.take_succ_cons, List.take_zero, List.drop_succ_cons, List.drop_zero]
  obtain ⟨⟨hp, hw⟩, hK⟩ := hK
  clear hok
  obtain ⟨z, hz⟩ := gAdd_nil p w v
  rw [hz] at hK ⊢
  exact ⟨⟨hp, hw, by decide, trivial⟩, ⟨by show 1 ≤ 1000000; decide, fun x hx => by rw [List.mem_singleton.1 hx]; exact hw, by simp⟩, retN [256] rfl hK⟩
def c_single : Ctr Tryz.prog := ⟨139, ent Tryz.func139 rfl rfl, [], sp_single, good_single, []⟩
@[go_sem] theorem c_single_f : c_single.f = 139 := rfl
@[go_sem] theorem c_single_ms : c_single.ms = [] := rfl
@[go_sem] theorem c_single_sp : c_single.spec = sp_single := rfl
@[go_sem] theorem c_single_fz : c_single.fz = [] := rfl
attribute [go_sem] sp_single
def sp_ren1 : List Cv → List Obj' → Tree
  | [.one (.ro (.int .i64) w), .one (.elr (.pr (.int .i64) (.sl 87 (.pr (.sl 2 (.int .i64)) (.int .i64)))) [x] 0 0), .one (.pp [.sl 2 (.int .i64)] (.sl 2 (.int .i64)) f)], [] =>
    .need ((x : Int × TermL).1 ≠ 0 ∧ (f (w, ())).isSome = true ∧ ((f (w, ())).getD [] : List Int).length < 1099511627776) (.ret (.val (.agg [.v (.int .i64 (x : Int × TermL).1), .ro (.pr (.sl 2 (.int .i64)) (.int .i64)) (sortT (nzT (gAdd (x : Int × TermL).1 [] ((f (w, ())).getD []) 1)))])) [])
  | _, _ => .fail
set_option maxHeartbeats 4000000 in
set_option maxRecDepth 100000 in
theorem good_ren1 : Good Tryz.prog 138 sp_ren1 := by
  refine good_ofF Tryz.func138 rfl _ rfl _ rfl (tab [c_single]) (fun X cs os0 K hok hos hK => ?_)
  clear hos; unfold sp_ren1 at hK
  split at hK
  case h_2 => exact hK.elim
  rename_i w x f
  refine ⟨by simp, by simp, ?_⟩
  simp only [go_sem] at hK hok
  simp (maxSteps := 4000000) only [go_sem, Tryz.f138, ↓brB_t, ↓brB_f, Nat.reduceAdd, Int.reduceLE, Int.reduceLT, Int.reduceNeg, decide_true, decide_false, Bool.and_self, Nat.succ_eq_add_one, Int.toNat_natCast, Nat.beq_refl, Bool.and_true, Bool.true_and, Bool.false_or, Bool.or_true, List.all_cons, List.all_nil, Nat.reduceMul, Nat.add_zero, Nat.zero_add, List.length_nil, List.length_cons, dite_true, List.nil_append, Nat.reduceBEq, reduceDIte, reduceIte, reduceCtorEq, Bool.or_false, Bool.true_or, Bool.and_false, Bool.false_and, Bool.not_true, Bool.not_false, Option.isSome_some, Option.isSome_none, Option.getD_some, List.getElem?_cons_zero, List.getElem?_cons_succ, eq_self, and_self, List.take_succ_cons, List.take_zero, List.drop_succ_cons, List.drop_zero]
  obtain ⟨⟨hp, h1, h2⟩, hK⟩ := hK
  clear hok
  exact ⟨h1, ⟨hp, h2⟩, by kernel_rfl, retN [] rfl hK⟩
def renP (ys : HC [.d kSum, .p [.sl 2 (.int .i64)] (.sl 2 (.int .i64))]) (xs : HT [Kn.sl 2 (.int .i64)]) : Option (Int × TermL) :=
  match ys.2.1 xs with
  | some u => if (ys.1 : Int × TermL).1 ≠ 0 ∧ (u : List Int).length < 1099511627776 then some ((ys.1 : Int × TermL).1, sortT (nzT (gAdd (ys.1 : Int × TermL).1 [] u 1))) else none
  | none => none
def p_ren : PFn Tryz.prog := ⟨138, entB Tryz.func138 rfl rfl, [.d kSum, .p [.sl 2 (.int .i64)] (.sl 2 (.int .i64))], [.sl 2 (.int .i64)], kSum, renP, sp_ren1, good_ren1, fun ys xs y h K hK => by
  unfold renP at h
  cases hu : ys.2.1 xs with
  | none => rw [hu] at h; cases h
  | some u =>
    rw [hu] at h
    simp only at h
    split at h
    · rename_i hc
      injection h with h; subst h
      have hu : ys.2.1 (xs.1, ()) = some u := hu
      refine ⟨⟨hc.1, by rw [hu]; rfl, by rw [hu]; exact hc.2⟩, ?_⟩
      rw [hu]; exact hK
    · cases h⟩
@[go_sem] theorem p_ren_f : p_ren.f = 138 := rfl
@[go_sem] theorem p_ren_caps (args : List Rv) : (capsM p_ren.cks args fun ys => .ret (.val (.one (.pf p_ren.ks p_ren.r (p_ren.g ys))))) = capsM [.d kSum, .p [.sl 2 (.int .i64)] (.sl 2 (.int .i64))] args fun ys => .ret (.val (.one (.pf [.sl 2 (.int .i64)] kSum (renP ys)))) := rfl
def sp_renamed : List Cv → List Obj' → Tree
  | [.agg [.v (.int .i64 p), .ro (.pr (.sl 2 (.int .i64)) (.int .i64)) ts], .one (.pf [.sl 2 (.int .i64)] (.sl 2 (.int .i64)) f)], [] =>
    .need (p ≠ 0 ∧ (ts : TermL).length ≤ 200 ∧ (∀ x ∈ (ts : TermL), (renP ((p, ts), f, ()) (x.1, ())).isSome = true ∧ (chS (renP ((p, ts), f, ())) x.1).length ≤ 100 ∧ ∀ y ∈ chS (renP ((p, ts), f, ())) x.1, y.1.length < 1099511627776) ∧ ∃ c, GRep (gCh p (renP ((p, ts), f, ())) ts) c)
      (.ret (.val (.agg [.v (.int .i64 p), .own 0])) [.drow 87 (.pr (.sl 2 (.int .i64)) (.int .i64)) (sortT (nzT (gCh p (renP ((p, ts), f, ())) ts)))])
  | _, _ => .fail
set_option maxHeartbeats 4000000 in
set_option maxRecDepth 100000 in
theorem good_renamed : Good Tryz.prog 95 sp_renamed := by
  refine good_ofF Tryz.func95 rfl _ rfl _ rfl (tab [c_changed] [] [p_ren]) (fun X cs os0 K hok hos hK => ?_)
  clear hos; unfold sp_renamed at hK
  split at hK
  case h_2 => exact hK.elim
  rename_i p ts f
  refine ⟨by simp, by simp, ?_⟩
  simp only [go_sem] at hK hok
  simp (maxSteps := 4000000) only [go_sem, Tryz.f95, ↓brB_t, ↓brB_f, Nat.reduceAdd, Int.reduceLE, Int.reduceLT, Int.reduceNeg, decide_true, decide_false, Bool.and_self, Nat.succ_eq_add_one, Int.toNat_natCast, Nat.beq_refl, Bool.and_true, Bool.true_and, Bool.false_or, Bool.or_true, List.all_cons, List.all_nil, Nat.reduceMul, Nat.add_zero, Nat.zero_add, List.length_nil, List.length_cons, dite_true, List.nil_append, Nat.reduceBEq, reduceDIte, reduceIte, reduceCtorEq, Bool.or_false, Bool.true_or, Bool.and_false, Bool.false_and, Bool.not_true, Bool.not_false, Option.isSome_some, Option.isSome_none, Option.getD_some, List.getElem?_cons_zero, List.getElem?_cons_succ, eq_self, and_self, List.take_succ_cons, List.take_zero, List.drop_succ_cons, List.drop_zero]
  obtain ⟨h1, hK⟩ := hK
  clear hok
  exact ⟨h1, retN [128] rfl hK⟩
def c_renamed : Ctr Tryz.prog := ⟨95, ent Tryz.func95 rfl rfl, [], sp_renamed, good_renamed, []⟩
@[go_sem] theorem c_renamed_f : c_renamed.f = 95 := rfl
@[go_sem] theorem c_renamed_ms : c_renamed.ms = [] := rfl
@[go_sem] theorem c_renamed_sp : c_renamed.spec = sp_renamed := rfl
@[go_sem] theorem c_renamed_fz : c_renamed.fz = [] := rfl
attribute [go_sem] sp_renamed
def leaP (x : HT [Kn.sl 2 (.int .i64)]) : Option (List Int) := if (x.1 : List Int).length < 1099511627776 ∧ Go.Proofs.YthfmlelodmcgkaaGreat.K.normalL x.1 = x.1 then some (leastL x.1) else none
def p_least : PF0 Tryz.prog := ⟨96, entB Tryz.func96 rfl rfl, [.sl 2 (.int .i64)], .sl 2 (.int .i64), leaP, sp_least, good_leastI, fun xs y h K hK => by
  unfold leaP at h
  split at h
  · rename_i hc
    injection h with h; subst h
    exact ⟨hc, hK⟩
  · cases h⟩
@[go_sem] theorem p_least_f : p_least.f = 96 := rfl
@[go_sem] theorem p_least_v : Rv.val (.one (.pf p_least.ks p_least.r p_least.g)) = Rv.val (.one (.pf [.sl 2 (.int .i64)] (.sl 2 (.int .i64)) leaP)) := rfl
def leaT (ts : TermL) : TermL := ts.map fun x => (leastL x.1, x.2)
def cirR (p : Int) (ts : TermL) : TermL := jS p (leaT ts)
theorem leaT_len (ts : TermL) : (leaT ts).length = ts.length := List.length_map ..
theorem leaT_w {ts : TermL} (h : ∀ x ∈ ts, isW x.1 = true) : ∀ x ∈ leaT ts, isW x.1 = true := fun x hx => by
  obtain ⟨y, hy, rfl⟩ := List.mem_map.1 hx
  exact leastL_isW (h y hy)
theorem leaT_s {ts : TermL} {i : Nat} (h : i < ts.length) : leaT (ts.take (i + 1)) = leaT (ts.take i) ++ [(leastL (ts.getD i ([], 0)).1, (ts.getD i ([], 0)).2)] := by
  have e : ts.getD i ([], 0) = ts[i] := by rw [List.getD_eq_getElem?_getD, List.getElem?_eq_getElem h]; rfl
  rw [leaT, List.take_succ_eq_append_getElem h, List.map_append, e]; rfl
theorem cir_ch {p : Int} {ts : TermL} (h2 : 2 ≤ p) (hp : p ≤ 13) {w : List Int} (hw : isW w = true) : renP ((p, ts), leaP, ()) (w, ()) = some (p, [(leastL w, 1)]) := by
  have e : leaP (w, ()) = some (leastL w) := if_pos ⟨by have := isW_l12 hw; show w.length < _; omega, isW_normal hw⟩
  unfold renP
  show (match leaP (w, ()) with | some u => _ | none => none) = _
  rw [e]
  have hl := isW_l12 hw
  simp only
  rw [if_pos ⟨by show p ≠ 0; omega, by rw [leastL_len]; omega⟩, one_sorted h2 (by omega)]
theorem cir_rep {p : Int} {ts : TermL} (h2 : 2 ≤ p) (hp : p ≤ 13) (hw : ∀ x ∈ ts, isW x.1 = true) (hv : ∀ x ∈ ts, 0 ≤ x.2 ∧ x.2 ≤ 13) : GRep (gCh p (renP ((p, ts), leaP, ())) ts) (cF p (fun _ => 0) (leaT ts)) := by
  have key : ∀ x ∈ ts, chS (renP ((p, ts), leaP, ())) x.1 = [(leastL x.1, 1)] := fun x hx => by
    unfold chS; rw [cir_ch h2 hp (hw x hx)]; rfl
  have hg := gCh_rep p (renP ((p, ts), leaP, ())) ts [] _ GRep.nil (fun x hx y hy => by
    rw [key x hx] at hy
    rw [List.mem_singleton.1 hy]
    exact sm_of (leastL_isW (hw x hx)))
  have e : (ts.flatMap fun x => (chS (renP ((p, ts), leaP, ())) x.1).map fun y => (y.1, w64 (y.2 * x.2))) = leaT ts := by
    suffices h : ∀ us : TermL, (∀ x ∈ us, x ∈ ts) → (us.flatMap fun x => (chS (renP ((p, ts), leaP, ())) x.1).map fun y => (y.1, w64 (y.2 * x.2))) = leaT us from h ts fun _ h => h
    intro us
    induction us with
    | nil => intro _; rfl
    | cons x us ih =>
      intro h
      have hx := h x List.mem_cons_self
      have := hv x hx
      rw [List.flatMap_cons, ih fun y hy => h y (List.mem_cons_of_mem _ hy), key x hx]
      show (leastL x.1, w64 (1 * x.2)) :: leaT us = leaT (x :: us)
      rw [Int.one_mul, w64_id (by omega) (by omega)]; rfl
  rw [e] at hg
  exact hg
theorem cir_eq {p : Int} {ts : TermL} (h2 : 2 ≤ p) (hp : p ≤ 13) (hw : ∀ x ∈ ts, isW x.1 = true) (hv : ∀ x ∈ ts, 0 ≤ x.2 ∧ x.2 ≤ 13) : sortT (nzT (gCh p (renP ((p, ts), leaP, ())) ts)) = cirR p ts :=
  (cir_rep h2 hp hw hv).sum (jS_rep p _ fun x hx => sm_of (leaT_w hw x hx))
def okT (p : Int) (ts : TermL) : Prop := (2 ≤ p ∧ p ≤ 13) ∧ ts.length ≤ 200 ∧ ∀ x ∈ ts, isW x.1 = true ∧ 0 ≤ x.2 ∧ x.2 ≤ 13
theorem okT_of {p : Int} {ts : TermL} (h : isS p ts = true) : okT p ts := ⟨isS_2 h, (isS_parts h).2.1, fun x hx => ⟨isS_words h x hx, isS_vals h x hx⟩⟩
def sp_circle : List Cv → List Obj' → Tree
  | [.agg [.v (.int .i64 p), .ro (.pr (.sl 2 (.int .i64)) (.int .i64)) ts]], [] => .need (okT p ts) (.ret (.val (.agg [.v (.int .i64 p), .own 0])) [.drow 87 (.pr (.sl 2 (.int .i64)) (.int .i64)) (cirR p ts)])
  | _, _ => .fail
set_option maxHeartbeats 4000000 in
set_option maxRecDepth 100000 in
theorem good_circle : Good Tryz.prog 55 sp_circle := by
  refine good_ofF Tryz.func55 rfl _ rfl _ rfl (tab [c_renamed] [p_least]) (fun X cs os0 K hok hos hK => ?_)
  clear hos; unfold sp_circle at hK
  split at hK
  case h_2 => exact hK.elim
  rename_i p ts
  refine ⟨by simp, by simp, ?_⟩
  simp only [go_sem] at hK hok
  simp (maxSteps := 4000000) only [go_sem, Tryz.f55, ↓brB_t, ↓brB_f, Nat.reduceAdd, Int.reduceLE, Int.reduceLT, Int.reduceNeg, decide_true, decide_false, Bool.and_self, Nat.succ_eq_add_one, Int.toNat_natCast, Nat.beq_refl, Bool.and_true, Bool.true_and, Bool.false_or, Bool.or_true, List.all_cons, List.all_nil, Nat.reduceMul, Nat.add_zero, Nat.zero_add, List.length_nil, List.length_cons, dite_true, List.nil_append, Nat.reduceBEq, reduceDIte, reduceIte, reduceCtorEq, Bool.or_false, Bool.true_or, Bool.and_false, Bool.false_and, Bool.not_true, Bool.not_false, Option.isSome_some, Option.isSome_none, Option.getD_some, List.getElem?_cons_zero, List.getElem?_cons_succ, eq_self, and_self, List.take_succ_cons, List.take_zero, List.drop_succ_cons, List.drop_zero]
  obtain ⟨⟨⟨h2, hp⟩, hl, hx⟩, hK⟩ := hK
  clear hok
  rw [← cir_eq h2 hp (fun x h => (hx x h).1) (fun x h => (hx x h).2)] at hK
  have hc := fun x (h : x ∈ ts) => cir_ch (ts := ts) h2 hp (hx x h).1
  have hs : ∀ x ∈ (ts : TermL), chS (renP ((p, ts), leaP, ())) x.1 = [(leastL x.1, 1)] := fun x h => by unfold chS; rw [hc x h]; rfl
  refine ⟨⟨by omega, hl, fun x h => ⟨by rw [hc x h]; rfl, by rw [hs x h]; exact Nat.le_of_ble_eq_true rfl, fun y hy => ?_⟩, _, cir_rep h2 hp (fun x h => (hx x h).1) (fun x h => (hx x h).2)⟩, retN [80] rfl hK⟩
  rw [hs x h] at hy
  rw [List.mem_singleton.1 hy]
  have := isW_l12 (leastL_isW (hx x h).1)
  show (leastL x.1).length < _
  omega
def c_circle : Ctr Tryz.prog := ⟨55, ent Tryz.func55 rfl rfl, [], sp_circle, good_circle, []⟩
@[go_sem] theorem c_circle_f : c_circle.f = 55 := rfl
@[go_sem] theorem c_circle_ms : c_circle.ms = [] := rfl
@[go_sem] theorem c_circle_sp : c_circle.spec = sp_circle := rfl
@[go_sem] theorem c_circle_fz : c_circle.fz = [] := rfl
attribute [go_sem] sp_circle
set_option maxHeartbeats 4000000 in
set_option maxRecDepth 100000 in
theorem good_circleS : Good Tryz.prog 49 sp_circle := by
  refine good_ofF Tryz.func49 rfl _ rfl _ rfl (tab [c_l03Empty, c_leastS, c_l03Put]) (fun X cs os0 K hok hos hK => ?_)
  clear hos; unfold sp_circle at hK
  split at hK
  case h_2 => exact hK.elim
  rename_i p ts
  refine ⟨by simp, by simp, ?_⟩
  simp only [go_sem] at hK hok
  simp (maxSteps := 4000000) only [go_sem, Tryz.f49, ↓brB_t, ↓brB_f, Nat.reduceAdd, Int.reduceLE, Int.reduceLT, Int.reduceNeg, decide_true, decide_false, Bool.and_self, Nat.succ_eq_add_one, Int.toNat_natCast, Nat.beq_refl, Bool.and_true, Bool.true_and, Bool.false_or, Bool.or_true, List.all_cons, List.all_nil, Nat.reduceMul, Nat.add_zero, Nat.zero_add, List.length_nil, List.length_cons, dite_true, List.nil_append, Nat.reduceBEq, reduceDIte, reduceIte, reduceCtorEq, Bool.or_false, Bool.true_or, Bool.and_false, Bool.false_and, Bool.not_true, Bool.not_false, Option.isSome_some, Option.isSome_none, Option.getD_some, List.getElem?_cons_zero, List.getElem?_cons_succ, eq_self, and_self, List.take_succ_cons, List.take_zero, List.drop_succ_cons, List.drop_zero]
  obtain ⟨⟨⟨h2, hp⟩, hl, hx⟩, hK⟩ := hK
  clear hok
  have hw : ∀ x ∈ ts, isW x.1 = true := fun x h => (hx x h).1
  refine loop_okF (T := tab [c_l03Empty, c_leastS, c_l03Put]) [1, 2, 3, 4] [(16, 32), (17, 48), (18, 64), (19, 128)] (fun i : Nat => ⟨31, [(1, .val (.one (.ptr 16 0))), (2, .val (.one (.ptr 17 0))), (3, .val (.one (.ptr 18 0))), (4, vi i)],
      [(16, .box tS' [.v (.int .i64 p), .ro kTerm ts]), (17, .box tS' [.v (.int .i64 0), .v (.slice none 0 0)]), (18, .box tS' [.v (.int .i64 p), .own 19]), (19, .drow tI kTerm (jS p (leaT (ts.take i))))]⟩)
    (fun i => i ≤ ts.length) (fun i => ts.length - i) 0 rfl rfl (Nat.zero_le _) (fun i hi => ?_)
  simp only [go_sem, ↓brB_t, ↓brB_f, Nat.reduceAdd, Int.reduceLE, Int.reduceLT, Int.reduceNeg, decide_true, decide_false, Bool.and_self, Nat.succ_eq_add_one, Int.toNat_natCast, Nat.beq_refl, Bool.and_true, Bool.true_and, Bool.false_or, Bool.or_true, List.all_cons, List.all_nil, Nat.reduceMul, Nat.add_zero, Nat.zero_add, List.length_nil, List.length_cons, dite_true, List.nil_append, Nat.reduceBEq, reduceDIte, reduceIte, reduceCtorEq, Bool.or_false, Bool.true_or, Bool.and_false, Bool.false_and, Bool.not_true, Bool.not_false, Option.isSome_some, Option.isSome_none, Option.getD_some, List.getElem?_cons_zero, List.getElem?_cons_succ, eq_self, and_self, List.take_succ_cons, List.take_zero, List.drop_succ_cons, List.drop_zero]
  have hjl := jS_len p (leaT (ts.take i))
  rw [leaT_len, List.length_take] at hjl
  have hjw := jS_q (p := p) (q := fun u => isW u = true) (ts := leaT (ts.take i)) (leaT_w fun x h => hw x (List.mem_of_mem_take h))
  refine brB_intro (fun h3 => ?_) (fun h3 => ?_)
  · have h3 := of_decide_eq_true h3
    have hs := leaT_s (ts := ts) (i := i) (by omega)
    have hw1 : w64 ((i : Int) + 1) = ((i + 1 : Nat) : Int) := w64_s (n := ts.length) (by omega) (by omega)
    have hm := hw _ (getD_memT (show i < ts.length by omega))
    have hml := isW_l12 hm
    have hll := isW_l12 (leastL_isW hm)
    rw [hw1]
    refine ⟨⟨by omega, by omega⟩, ⟨by omega, isW_normal hm⟩, ⟨by omega, by omega⟩, ⟨by omega, by omega, by omega, fun x hx => by have := isW_l12 (hjw x hx); omega⟩, by kernel_rfl, i + 1, [(16, 16), (17, 17), (18, 18), (19, 480)], by omega, by omega, rfl, ?_⟩
    rw [hs, jS_s]; rfl
  · have h3 := of_decide_eq_false h3
    have e : i = ts.length := by omega
    rw [e, List.take_length]
    exact retN [19] rfl hK
def c_circleS : Ctr Tryz.prog := ⟨49, ent Tryz.func49 rfl rfl, [], sp_circle, good_circleS, []⟩
@[go_sem] theorem c_circleS_f : c_circleS.f = 49 := rfl
@[go_sem] theorem c_circleS_ms : c_circleS.ms = [] := rfl
@[go_sem] theorem c_circleS_sp : c_circleS.spec = sp_circle := rfl
@[go_sem] theorem c_circleS_fz : c_circleS.fz = [] := rfl
attribute [go_sem] sp_circle
end Go.Proofs.YthfmlelodmcgkaaGreat.V
end
section
namespace Go.Proofs.YthfmlelodmcgkaaGreat.V
open Go
theorem sm_isS {p : Int} {ts : TermL} (h : smS [(p, ts)] = 0) : isS p ts = true := by
  unfold smS at h
  have h0 : wrongS [(p, ts)] = 0 := Decidable.byContradiction fun hc => by rw [if_pos hc] at h; exact hc h
  exact wrongS_is h0 (p, ts) (List.mem_singleton.2 rfl)
theorem inB_tt {x a b : Int} (h : inB x a b = true) : a ≤ x ∧ x ≤ b := by simpa [inB] using h
end Go.Proofs.YthfmlelodmcgkaaGreat.V
end
section
namespace Go.Proofs.YthfmlelodmcgkaaGreat.V
open Go
def okOrd (p n low : Int) : Bool := primeB p && inB n low 4
def sp_order : List Cv → List Obj' → Tree
  | [.one (.v (.int .i64 p)), .one (.v (.int .i64 n)), .one (.v (.int .i64 low))], [] => .ret (vb (okOrd p n low)) []
  | _, _ => .fail
def sp_code : List Cv → List Obj' → Tree
  | [.one (.v (.int .i64 p)), .one (.v (.int .i64 n)), .one (.v (.int .i64 low))], [] => .ret (vi (if okOrd p n low then 0 else 2)) []
  | _, _ => .fail
set_option maxHeartbeats 4000000 in
set_option maxRecDepth 100000 in
theorem good_order : Good Tryz.prog 66 sp_order := by
  refine good_ofF Tryz.func66 rfl _ rfl _ rfl (tab [c_isPrime, c_in]) (fun X cs os0 K hok hos hK => ?_)
  clear hos; unfold sp_order at hK
  split at hK
  case h_2 => exact hK.elim
  rename_i p n low
  refine ⟨by simp, by simp, ?_⟩
  simp only [go_sem] at hK hok
  simp (maxSteps := 4000000) only [go_sem, Tryz.f66, ↓brB_t, ↓brB_f, Nat.reduceAdd, Int.reduceLE, Int.reduceLT, Int.reduceNeg, decide_true, decide_false, Bool.and_self, Nat.succ_eq_add_one, Int.toNat_natCast, Nat.beq_refl, Bool.and_true, Bool.true_and, Bool.false_or, Bool.or_true, List.all_cons, List.all_nil, Nat.reduceMul, Nat.add_zero, Nat.zero_add, List.length_nil, List.length_cons, dite_true, List.nil_append, Nat.reduceBEq, reduceDIte, reduceIte, reduceCtorEq, Bool.or_false, Bool.true_or, Bool.and_false, Bool.false_and, Bool.not_true, Bool.not_false, Option.isSome_some, Option.isSome_none, Option.getD_some, List.getElem?_cons_zero, List.getElem?_cons_succ, eq_self, and_self, List.take_succ_cons, List.take_zero, List.drop_succ_cons, List.drop_zero]
  clear hok
  refine brB_intro (fun h1 => ?_) (fun h1 => ?_)
  · rw [okOrd, h1, Bool.true_and] at hK; exact ret0 hK
  · rw [okOrd, h1, Bool.false_and] at hK; exact ret0 hK
def c_order : Ctr Tryz.prog := ⟨66, ent Tryz.func66 rfl rfl, [], sp_order, good_order, []⟩
@[go_sem] theorem c_order_f : c_order.f = 66 := rfl
@[go_sem] theorem c_order_ms : c_order.ms = [] := rfl
@[go_sem] theorem c_order_sp : c_order.spec = sp_order := rfl
@[go_sem] theorem c_order_fz : c_order.fz = [] := rfl
attribute [go_sem] sp_order
set_option maxHeartbeats 4000000 in
set_option maxRecDepth 100000 in
theorem good_code : Good Tryz.prog 62 sp_code := by
  refine good_ofF Tryz.func62 rfl _ rfl _ rfl (tab [c_l03Prime, c_l01In]) (fun X cs os0 K hok hos hK => ?_)
  clear hos; unfold sp_code at hK
  split at hK
  case h_2 => exact hK.elim
  rename_i p n low
  refine ⟨by simp, by simp, ?_⟩
  simp only [go_sem] at hK hok
  simp (maxSteps := 4000000) only [go_sem, Tryz.f62, ↓brB_t, ↓brB_f, Nat.reduceAdd, Int.reduceLE, Int.reduceLT, Int.reduceNeg, decide_true, decide_false, Bool.and_self, Nat.succ_eq_add_one, Int.toNat_natCast, Nat.beq_refl, Bool.and_true, Bool.true_and, Bool.false_or, Bool.or_true, List.all_cons, List.all_nil, Nat.reduceMul, Nat.add_zero, Nat.zero_add, List.length_nil, List.length_cons, dite_true, List.nil_append, Nat.reduceBEq, reduceDIte, reduceIte, reduceCtorEq, Bool.or_false, Bool.true_or, Bool.and_false, Bool.false_and, Bool.not_true, Bool.not_false, Option.isSome_some, Option.isSome_none, Option.getD_some, List.getElem?_cons_zero, List.getElem?_cons_succ, eq_self, and_self, List.take_succ_cons, List.take_zero, List.drop_succ_cons, List.drop_zero]
  clear hok
  refine brB_intro (fun h1 => ?_) (fun h1 => brB_intro (fun h2 => ?_) (fun h2 => ?_))
  · have e : okOrd p n low = false := by rw [okOrd, snb h1]; rfl
    rw [e, if_neg (by decide)] at hK; exact ret0 hK
  · have e : okOrd p n low = false := by rw [okOrd, snb' h1, snb h2]; rfl
    rw [e, if_neg (by decide)] at hK; exact ret0 hK
  · have e : okOrd p n low = true := by rw [okOrd, snb' h1, snb' h2]; rfl
    rw [e, if_pos rfl] at hK; exact ret0 hK
def c_code : Ctr Tryz.prog := ⟨62, ent Tryz.func62 rfl rfl, [], sp_code, good_code, []⟩
@[go_sem] theorem c_code_f : c_code.f = 62 := rfl
@[go_sem] theorem c_code_ms : c_code.ms = [] := rfl
@[go_sem] theorem c_code_sp : c_code.spec = sp_code := rfl
@[go_sem] theorem c_code_fz : c_code.fz = [] := rfl
attribute [go_sem] sp_code
def sp_wo1 : List Cv → List Obj' → Tree
  | [.one (.v (.int .i64 x)), .one (.elr (.int .i64) [p] 0 0)], [] => .ret (vb (!inB x 0 (w64 (p - 1)))) []
  | _, _ => .fail
set_option maxHeartbeats 4000000 in
set_option maxRecDepth 100000 in
theorem good_wo1 : Good Tryz.prog 99 sp_wo1 := by
  refine good_ofF Tryz.func99 rfl _ rfl _ rfl (tab [c_in]) (fun X cs os0 K hok hos hK => ?_)
  clear hos; unfold sp_wo1 at hK
  split at hK
  case h_2 => exact hK.elim
  rename_i x p
  refine ⟨by simp, by simp, ?_⟩
  simp only [go_sem] at hK hok
  simp (maxSteps := 4000000) only [go_sem, Tryz.f99, ↓brB_t, ↓brB_f, Nat.reduceAdd, Int.reduceLE, Int.reduceLT, Int.reduceNeg, decide_true, decide_false, Bool.and_self, Nat.succ_eq_add_one, Int.toNat_natCast, Nat.beq_refl, Bool.and_true, Bool.true_and, Bool.false_or, Bool.or_true, List.all_cons, List.all_nil, Nat.reduceMul, Nat.add_zero, Nat.zero_add, List.length_nil, List.length_cons, dite_true, List.nil_append, Nat.reduceBEq, reduceDIte, reduceIte, reduceCtorEq, Bool.or_false, Bool.true_or, Bool.and_false, Bool.false_and, Bool.not_true, Bool.not_false, Option.isSome_some, Option.isSome_none, Option.getD_some, List.getElem?_cons_zero, List.getElem?_cons_succ, eq_self, and_self, List.take_succ_cons, List.take_zero, List.drop_succ_cons, List.drop_zero]
  clear hok
  exact ret0 hK
def wo1P (ys : HC [.d (.int .i64)]) (xs : HT [Kn.int .i64]) : Option Bool := some (!inB xs.1 0 (w64 ((ys.1 : Int) - 1)))
def p_wo1 : PFn Tryz.prog := ⟨99, entB Tryz.func99 rfl rfl, [.d (.int .i64)], [.int .i64], .bool, wo1P, sp_wo1, good_wo1, fun ys xs y h K hK => by injection h with h; subst h; exact hK⟩
@[go_sem] theorem p_wo1_f : p_wo1.f = 99 := rfl
@[go_sem] theorem p_wo1_caps (args : List Rv) : (capsM p_wo1.cks args fun ys => .ret (.val (.one (.pf p_wo1.ks p_wo1.r (p_wo1.g ys))))) = capsM [.d (.int .i64)] args fun ys => .ret (.val (.one (.pf [.int .i64] .bool (wo1P ys)))) := rfl
def okWt (p n : Int) (l : List Int) : Bool := okOrd p n 0 && (decide (l.length = (diaL n.toNat).length) && l.all fun x => inB x 0 (p - 1))
theorem okOrd_n {p n low : Int} (h : okOrd p n low = true) : (2 ≤ p ∧ p ≤ 13) ∧ low ≤ n ∧ n ≤ 4 := by
  obtain ⟨h1, h2⟩ := Bool.and_eq_true_iff.1 h
  refine ⟨?_, inB_tt h2⟩
  simp [primeB] at h1
  omega
theorem any_out {p : Int} (l : List Int) (h : 2 ≤ p ∧ p ≤ 13) : l.any (tst (wo1P (p, ()))) = !l.all fun x => inB x 0 (p - 1) := by
  rw [List.not_all_eq_any_not]
  refine congrArg (List.any l) (funext fun x => ?_)
  show (!inB x 0 (w64 (p - 1))) = _
  rw [w64_id (by omega) (by omega)]
def sp_wOk : List Cv → List Obj' → Tree
  | [.one (.v (.int .i64 p)), .one (.v (.int .i64 n)), .one (.ro (.int .i64) l)], [] => .ret (vb (okWt p n l)) []
  | _, _ => .fail
def sp_list : List Cv → List Obj' → Tree
  | [.one (.v (.int .i64 p)), .one (.v (.int .i64 n)), .one (.ro (.int .i64) l)], [] => .ret (vi (if okWt p n l then 0 else 2)) []
  | _, _ => .fail
set_option maxHeartbeats 4000000 in
set_option maxRecDepth 100000 in
theorem good_wOk : Good Tryz.prog 60 sp_wOk := by
  refine good_ofF Tryz.func60 rfl _ rfl _ rfl (tab [c_order, c_dias, c_contains] [] [p_wo1]) (fun X cs os0 K hok hos hK => ?_)
  clear hos; unfold sp_wOk at hK
  split at hK
  case h_2 => exact hK.elim
  rename_i p n l
  refine ⟨by simp, by simp, ?_⟩
  simp only [go_sem] at hK hok
  simp (maxSteps := 4000000) only [go_sem, Tryz.f60, ↓brB_t, ↓brB_f, Nat.reduceAdd, Int.reduceLE, Int.reduceLT, Int.reduceNeg, decide_true, decide_false, Bool.and_self, Nat.succ_eq_add_one, Int.toNat_natCast, Nat.beq_refl, Bool.and_true, Bool.true_and, Bool.false_or, Bool.or_true, List.all_cons, List.all_nil, Nat.reduceMul, Nat.add_zero, Nat.zero_add, List.length_nil, List.length_cons, dite_true, List.nil_append, Nat.reduceBEq, reduceDIte, reduceIte, reduceCtorEq, Bool.or_false, Bool.true_or, Bool.and_false, Bool.false_and, Bool.not_true, Bool.not_false, Option.isSome_some, Option.isSome_none, Option.getD_some, List.getElem?_cons_zero, List.getElem?_cons_succ, eq_self, and_self, List.take_succ_cons, List.take_zero, List.drop_succ_cons, List.drop_zero]
  have hl := len_i hok.2.2.1.1
  clear hok
  refine brB_intro (fun h1 => ?_) (fun h1 => ?_)
  · have e : okWt p n l = false := by unfold okWt; rw [snb h1]; rfl
    rw [e] at hK; exact ret0 hK
  · have h1 := snb' h1
    have hn := okOrd_n h1
    refine ⟨⟨by omega, by omega⟩, brB_intro (fun h2 => ret0 ?_) (fun h2 => ⟨fun x _ => rfl, ret0 ?_⟩)⟩
    · have h2 := of_decide_eq_false (snb h2)
      have e : okWt p n l = false := by unfold okWt; rw [h1, decide_eq_false (by omega)]; rfl
      rw [e] at hK; exact hK
    · have h2 := of_decide_eq_true (snb' h2)
      have e : okWt p n l = !(l : List Int).any (tst (wo1P (p, ()))) := by unfold okWt; rw [h1, decide_eq_true (by omega), any_out l hn.1, Bool.not_not, Bool.true_and, Bool.true_and]
      rw [e] at hK; exact hK
def c_wOk : Ctr Tryz.prog := ⟨60, ent Tryz.func60 rfl rfl, [], sp_wOk, good_wOk, []⟩
@[go_sem] theorem c_wOk_f : c_wOk.f = 60 := rfl
@[go_sem] theorem c_wOk_ms : c_wOk.ms = [] := rfl
@[go_sem] theorem c_wOk_sp : c_wOk.spec = sp_wOk := rfl
@[go_sem] theorem c_wOk_fz : c_wOk.fz = [] := rfl
attribute [go_sem] sp_wOk
set_option maxHeartbeats 4000000 in
set_option maxRecDepth 100000 in
theorem good_list : Good Tryz.prog 58 sp_list := by
  refine good_ofF Tryz.func58 rfl _ rfl _ rfl (tab [c_code, c_l01In, c_diasS]) (fun X cs os0 K hok hos hK => ?_)
  clear hos; unfold sp_list at hK
  split at hK
  case h_2 => exact hK.elim
  rename_i p n l
  refine ⟨by simp, by simp, ?_⟩
  simp only [go_sem] at hK hok
  simp (maxSteps := 4000000) only [go_sem, Tryz.f58, ↓brB_t, ↓brB_f, Nat.reduceAdd, Int.reduceLE, Int.reduceLT, Int.reduceNeg, decide_true, decide_false, Bool.and_self, Nat.succ_eq_add_one, Int.toNat_natCast, Nat.beq_refl, Bool.and_true, Bool.true_and, Bool.false_or, Bool.or_true, List.all_cons, List.all_nil, Nat.reduceMul, Nat.add_zero, Nat.zero_add, List.length_nil, List.length_cons, dite_true, List.nil_append, Nat.reduceBEq, reduceDIte, reduceIte, reduceCtorEq, Bool.or_false, Bool.true_or, Bool.and_false, Bool.false_and, Bool.not_true, Bool.not_false, Option.isSome_some, Option.isSome_none, Option.getD_some, List.getElem?_cons_zero, List.getElem?_cons_succ, eq_self, and_self, List.take_succ_cons, List.take_zero, List.drop_succ_cons, List.drop_zero]
  have hl := len_i hok.2.2.1.1
  clear hok
  refine brB_intro (fun h1 => ret0 ?_) (fun h1 => ?_)
  · have h1 := of_decide_eq_false (snb h1)
    have h1 : okOrd p n 0 = false := by
      cases h : okOrd p n 0 with
      | false => rfl
      | true => rw [h, if_pos rfl] at h1; exact absurd rfl h1
    have e : okWt p n l = false := by unfold okWt; rw [h1]; rfl
    rw [e] at hK; rw [h1]; exact hK
  · have h1 := of_decide_eq_true (snb' h1)
    have h1 : okOrd p n 0 = true := by
      cases h : okOrd p n 0 with
      | true => rfl
      | false => rw [h, if_neg (by decide)] at h1; exact absurd h1 (by decide)
    have hn := okOrd_n h1
    have hp : w64 (p - 1) = p - 1 := w64_id (by omega) (by omega)
    refine loop_okF (T := tab [c_code, c_l01In, c_diasS]) [0, 1, 2, 8] [] (fun i : Nat => ⟨35, [(0, vi p), (1, vi n), (2, ri l), (8, vi i)], []⟩)
      (fun i => i ≤ l.length ∧ ((l : List Int).take i).all (fun x => inB x 0 (p - 1)) = true) (fun i => l.length - i) 0 rfl rfl ⟨Nat.zero_le _, rfl⟩ (fun i hi => ?_)
    obtain ⟨hi, hm⟩ := hi
    simp only [go_sem, ↓brB_t, ↓brB_f, Nat.reduceAdd, Int.reduceLE, Int.reduceLT, Int.reduceNeg, decide_true, decide_false, Bool.and_self, Nat.succ_eq_add_one, Int.toNat_natCast, Nat.beq_refl, Bool.and_true, Bool.true_and, Bool.false_or, Bool.or_true, List.all_cons, List.all_nil, Nat.reduceMul, Nat.add_zero, Nat.zero_add, List.length_nil, List.length_cons, dite_true, List.nil_append, Nat.reduceBEq, reduceDIte, reduceIte, reduceCtorEq, Bool.or_false, Bool.true_or, Bool.and_false, Bool.false_and, Bool.not_true, Bool.not_false, Option.isSome_some, Option.isSome_none, Option.getD_some, List.getElem?_cons_zero, List.getElem?_cons_succ, eq_self, and_self, List.take_succ_cons, List.take_zero, List.drop_succ_cons, List.drop_zero]
    refine brB_intro (fun h2 => ?_) (fun h2 => ?_)
    · have h2 := of_decide_eq_true h2
      have hil : i < l.length := by omega
      have hw1 : w64 ((i : Int) + 1) = ((i + 1 : Nat) : Int) := w64_s (n := l.length) (by omega) hl
      refine ⟨⟨by omega, by omega⟩, brB_intro (fun h3 => ret0 ?_) (fun h3 => ⟨i + 1, [], ⟨by omega, ?_⟩, by omega, rfl, by rw [hw1]; rfl⟩)⟩
      · have h3 := snb h3
        rw [hp] at h3
        have e : okWt p n l = false := by
          unfold okWt
          have : (l : List Int).all (fun x => inB x 0 (p - 1)) = false := List.all_eq_false.2 ⟨_, getD_mem hil, by rw [h3]; decide⟩
          rw [this, Bool.and_false, Bool.and_false]
        rw [e] at hK; exact hK
      · have h3 := snb' h3
        rw [hp] at h3
        rw [List.take_succ_eq_append_getElem hil, List.all_append, hm, ← getD_eq hil]
        simp only [List.all_cons, List.all_nil, Bool.and_true, Bool.true_and]
        exact h3
    · have h2 := of_decide_eq_false h2
      rw [List.take_of_length_le (by omega)] at hm
      refine ⟨⟨by omega, by omega⟩, brB_intro (fun h3 => ret0 ?_) (fun h3 => ret0 ?_)⟩
      · have h3 := of_decide_eq_false (snb h3)
        have e : okWt p n l = false := by unfold okWt; rw [h1, decide_eq_false (by omega)]; rfl
        rw [e] at hK; exact hK
      · have h3 := of_decide_eq_true (snb' h3)
        have e : okWt p n l = true := by unfold okWt; rw [h1, decide_eq_true (by omega), hm]; rfl
        rw [e] at hK; exact hK
def c_list : Ctr Tryz.prog := ⟨58, ent Tryz.func58 rfl rfl, [], sp_list, good_list, []⟩
@[go_sem] theorem c_list_f : c_list.f = 58 := rfl
@[go_sem] theorem c_list_ms : c_list.ms = [] := rfl
@[go_sem] theorem c_list_sp : c_list.spec = sp_list := rfl
@[go_sem] theorem c_list_fz : c_list.fz = [] := rfl
attribute [go_sem] sp_list
def sumL : List Int → List Int → Int
  | x :: a, y :: b => x * y + sumL a b
  | _, _ => 0
theorem sumL_s : ∀ {a b : List Int} {i : Nat}, i < a.length → a.length ≤ b.length → sumL (a.take (i + 1)) b = sumL (a.take i) b + a.getD i 0 * b.getD i 0
  | [], _, _, h, _ => by cases h
  | _ :: _, [], _, _, h => by simp at h
  | x :: a, y :: b, 0, _, _ => by
    show x * y + sumL (a.take 0) b = 0 + x * y
    rw [List.take_zero, Int.zero_add]
    cases b <;> exact Int.add_zero _
  | x :: a, y :: b, i + 1, h, h' => by
    show x * y + sumL (a.take (i + 1)) b = (x * y + sumL (a.take i) b) + a.getD i 0 * b.getD i 0
    rw [sumL_s (Nat.lt_of_succ_lt_succ h) (Nat.le_of_succ_le_succ h'), Int.add_assoc]
def modL (l : List Int) : Prop := ∀ x ∈ l, 0 ≤ x ∧ x ≤ 12
theorem mul_r {x y : Int} (h : 0 ≤ x ∧ x ≤ 12) (h' : 0 ≤ y ∧ y ≤ 12) : 0 ≤ x * y ∧ x * y ≤ 144 :=
  ⟨Int.mul_nonneg h.1 h'.1, Int.le_trans (Int.mul_le_mul h.2 h'.2 h'.1 (by decide)) (by decide)⟩
theorem sumL_r : ∀ (a b : List Int), modL a → modL b → 0 ≤ sumL a b ∧ sumL a b ≤ 144 * (a.length : Int)
  | [], _, _, _ => ⟨Int.le_refl 0, Int.le_refl 0⟩
  | x :: a, [], _, _ => ⟨Int.le_refl 0, by show (0 : Int) ≤ _; omega⟩
  | x :: a, y :: b, h, h' => by
    have ih := sumL_r a b (fun z hz => h z (List.mem_cons_of_mem _ hz)) (fun z hz => h' z (List.mem_cons_of_mem _ hz))
    have hm := mul_r (h x List.mem_cons_self) (h' y List.mem_cons_self)
    show 0 ≤ x * y + sumL a b ∧ x * y + sumL a b ≤ 144 * ((a.length + 1 : Nat) : Int)
    generalize x * y = z at *
    omega
def sp_dot : List Cv → List Obj' → Tree
  | [.one (.ro (.int .i64) a), .one (.ro (.int .i64) b), .one (.v (.int .i64 p))], [] => .need (1 ≤ p ∧ p ≤ 13 ∧ a.length ≤ b.length ∧ a.length ≤ 10000000 ∧ modL a ∧ modL b) (.ret (vi (sumL a b % p)) [])
  | _, _ => .fail
set_option maxHeartbeats 4000000 in
set_option maxRecDepth 100000 in
theorem good_dot : Good Tryz.prog 61 sp_dot := by
  refine good_ofF Tryz.func61 rfl _ rfl _ rfl (tab [c_rest]) (fun X cs os0 K hok hos hK => ?_)
  clear hos; unfold sp_dot at hK
  split at hK
  case h_2 => exact hK.elim
  rename_i a b p
  refine ⟨by simp, by simp, ?_⟩
  simp only [go_sem] at hK hok
  simp (maxSteps := 4000000) only [go_sem, Tryz.f61, ↓brB_t, ↓brB_f, Nat.reduceAdd, Int.reduceLE, Int.reduceLT, Int.reduceNeg, decide_true, decide_false, Bool.and_self, Nat.succ_eq_add_one, Int.toNat_natCast, Nat.beq_refl, Bool.and_true, Bool.true_and, Bool.false_or, Bool.or_true, List.all_cons, List.all_nil, Nat.reduceMul, Nat.add_zero, Nat.zero_add, List.length_nil, List.length_cons, dite_true, List.nil_append, Nat.reduceBEq, reduceDIte, reduceIte, reduceCtorEq, Bool.or_false, Bool.true_or, Bool.and_false, Bool.false_and, Bool.not_true, Bool.not_false, Option.isSome_some, Option.isSome_none, Option.getD_some, List.getElem?_cons_zero, List.getElem?_cons_succ, eq_self, and_self, List.take_succ_cons, List.take_zero, List.drop_succ_cons, List.drop_zero]
  obtain ⟨⟨h1, h2, h3, h4, h5, h6⟩, hK⟩ := hK
  clear hok
  refine loop_okF (T := tab [c_rest]) [1, 2, 7, 10, 11, 12] [] (fun i : Nat => ⟨29, [(1, ri b), (2, vi p), (7, vi (sumL (a.take i) b)), (10, ri a), (11, vi a.length), (12, vi i)], []⟩)
    (fun i => i ≤ a.length) (fun i => a.length - i) 0 rfl rfl (Nat.zero_le _) (fun i hi => ?_)
  simp only [go_sem, ↓brB_t, ↓brB_f, Nat.reduceAdd, Int.reduceLE, Int.reduceLT, Int.reduceNeg, decide_true, decide_false, Bool.and_self, Nat.succ_eq_add_one, Int.toNat_natCast, Nat.beq_refl, Bool.and_true, Bool.true_and, Bool.false_or, Bool.or_true, List.all_cons, List.all_nil, Nat.reduceMul, Nat.add_zero, Nat.zero_add, List.length_nil, List.length_cons, dite_true, List.nil_append, Nat.reduceBEq, reduceDIte, reduceIte, reduceCtorEq, Bool.or_false, Bool.true_or, Bool.and_false, Bool.false_and, Bool.not_true, Bool.not_false, Option.isSome_some, Option.isSome_none, Option.getD_some, List.getElem?_cons_zero, List.getElem?_cons_succ, eq_self, and_self, List.take_succ_cons, List.take_zero, List.drop_succ_cons, List.drop_zero]
  have hr := sumL_r (a.take i) b (fun x hx => h5 x (List.mem_of_mem_take hx)) h6
  rw [List.length_take] at hr
  refine brB_intro (fun h7 => ?_) (fun h7 => ?_)
  · have h7 := of_decide_eq_true h7
    have hs := sumL_s (a := a) (b := b) (i := i) (by omega) h3
    have hm := mul_r (h5 _ (getD_mem (show i < a.length by omega))) (h6 _ (getD_mem (show i < b.length by omega)))
    have hw1 : w64 ((i : Int) + 1) = ((i + 1 : Nat) : Int) := w64_id (by omega) (by omega)
    have hw2 : w64 ((a : List Int).getD i 0 * (b : List Int).getD i 0) = (a : List Int).getD i 0 * (b : List Int).getD i 0 := w64_id (by omega) (by omega)
    have hw3 : w64 (sumL (a.take i) b + (a : List Int).getD i 0 * (b : List Int).getD i 0) = sumL (a.take (i + 1)) b := by rw [hs]; exact w64_id (by omega) (by omega)
    exact ⟨⟨by omega, by omega⟩, ⟨by omega, by omega⟩, i + 1, [], by omega, by omega, rfl, by rw [hw1, hw2, hw3]; rfl⟩
  · have h7 := of_decide_eq_false h7
    rw [List.take_of_length_le (by omega)] at hr ⊢
    refine ⟨by omega, ret0 ?_⟩
    have e : modI p (sumL a b) = sumL a b % p := by
      unfold modI
      rw [Int.tmod_eq_emod_of_nonneg hr.1]
      have := Int.emod_nonneg (sumL a b) (show p ≠ 0 by omega)
      have := Int.emod_lt_of_pos (sumL a b) (show 0 < p by omega)
      rw [w64_id (by omega) (by omega), Int.tmod_eq_emod_of_nonneg (by omega), Int.add_emod_right, Int.emod_emod]
    rw [e]; exact hK
def c_dot : Ctr Tryz.prog := ⟨61, ent Tryz.func61 rfl rfl, [], sp_dot, good_dot, []⟩
@[go_sem] theorem c_dot_f : c_dot.f = 61 := rfl
@[go_sem] theorem c_dot_ms : c_dot.ms = [] := rfl
@[go_sem] theorem c_dot_sp : c_dot.spec = sp_dot := rfl
@[go_sem] theorem c_dot_fz : c_dot.fz = [] := rfl
attribute [go_sem] sp_dot
def sp_dotS : List Cv → List Obj' → Tree
  | [.one (.v (.int .i64 p)), .one (.ro (.int .i64) a), .one (.ro (.int .i64) b)], [] => .need (1 ≤ p ∧ p ≤ 13 ∧ a.length ≤ b.length ∧ a.length ≤ 10000000 ∧ modL a ∧ modL b) (.ret (vi (sumL a b % p)) [])
  | _, _ => .fail
set_option maxHeartbeats 4000000 in
set_option maxRecDepth 100000 in
theorem good_dotS : Good Tryz.prog 59 sp_dotS := by
  refine good_ofF Tryz.func59 rfl _ rfl _ rfl (tab []) (fun X cs os0 K hok hos hK => ?_)
  clear hos; unfold sp_dotS at hK
  split at hK
  case h_2 => exact hK.elim
  rename_i p a b
  refine ⟨by simp, by simp, ?_⟩
  simp only [go_sem] at hK hok
  simp (maxSteps := 4000000) only [go_sem, Tryz.f59, ↓brB_t, ↓brB_f, Nat.reduceAdd, Int.reduceLE, Int.reduceLT, Int.reduceNeg, decide_true, decide_false, Bool.and_self, Nat.succ_eq_add_one, Int.toNat_natCast, Nat.beq_refl, Bool.and_true, Bool.true_and, Bool.false_or, Bool.or_true, List.all_cons, List.all_nil, Nat.reduceMul, Nat.add_zero, Nat.zero_add, List.length_nil, List.length_cons, dite_true, List.nil_append, Nat.reduceBEq, reduceDIte, reduceIte, reduceCtorEq, Bool.or_false, Bool.true_or, Bool.and_false, Bool.false_and, Bool.not_true, Bool.not_false, Option.isSome_some, Option.isSome_none, Option.getD_some, List.getElem?_cons_zero, List.getElem?_cons_succ, eq_self, and_self, List.take_succ_cons, List.take_zero, List.drop_succ_cons, List.drop_zero]
  obtain ⟨⟨h1, h2, h3, h4, h5, h6⟩, hK⟩ := hK
  clear hok
  refine loop_okF (T := tab []) [0, 1, 2, 7, 8] [] (fun i : Nat => ⟨29, [(0, vi p), (1, ri a), (2, ri b), (7, vi (sumL (a.take i) b % p)), (8, vi i)], []⟩)
    (fun i => i ≤ a.length) (fun i => a.length - i) 0 rfl rfl (Nat.zero_le _) (fun i hi => ?_)
  simp only [go_sem, ↓brB_t, ↓brB_f, Nat.reduceAdd, Int.reduceLE, Int.reduceLT, Int.reduceNeg, decide_true, decide_false, Bool.and_self, Nat.succ_eq_add_one, Int.toNat_natCast, Nat.beq_refl, Bool.and_true, Bool.true_and, Bool.false_or, Bool.or_true, List.all_cons, List.all_nil, Nat.reduceMul, Nat.add_zero, Nat.zero_add, List.length_nil, List.length_cons, dite_true, List.nil_append, Nat.reduceBEq, reduceDIte, reduceIte, reduceCtorEq, Bool.or_false, Bool.true_or, Bool.and_false, Bool.false_and, Bool.not_true, Bool.not_false, Option.isSome_some, Option.isSome_none, Option.getD_some, List.getElem?_cons_zero, List.getElem?_cons_succ, eq_self, and_self, List.take_succ_cons, List.take_zero, List.drop_succ_cons, List.drop_zero]
  have hr := sumL_r (a.take i) b (fun x hx => h5 x (List.mem_of_mem_take hx)) h6
  rw [List.length_take] at hr
  refine brB_intro (fun h7 => ?_) (fun h7 => ?_)
  · have h7 := of_decide_eq_true h7
    have hs := sumL_s (a := a) (b := b) (i := i) (by omega) h3
    have hm := mul_r (h5 _ (getD_mem (show i < a.length by omega))) (h6 _ (getD_mem (show i < b.length by omega)))
    have hw1 : w64 ((i : Int) + 1) = ((i + 1 : Nat) : Int) := w64_id (by omega) (by omega)
    have hw2 : w64 ((a : List Int).getD i 0 * (b : List Int).getD i 0) = (a : List Int).getD i 0 * (b : List Int).getD i 0 := w64_id (by omega) (by omega)
    have n1 := Int.emod_nonneg (sumL (a.take i) b) (show p ≠ 0 by omega)
    have n2 := Int.emod_lt_of_pos (sumL (a.take i) b) (show 0 < p by omega)
    have hw3 : (w64 (sumL (a.take i) b % p + (a : List Int).getD i 0 * (b : List Int).getD i 0)).tmod p = sumL (a.take (i + 1)) b % p := by
      rw [hs, w64_id (by omega) (by omega), Int.tmod_eq_emod_of_nonneg (by omega), Int.emod_add_emod]
    exact ⟨⟨by omega, by omega⟩, ⟨by omega, by omega⟩, by omega, by kernel_rfl, i + 1, [], by omega, by omega, rfl, by rw [hw1, hw2, hw3]; rfl⟩
  · have h7 := of_decide_eq_false h7
    rw [List.take_of_length_le (by omega)]
    exact ret0 hK
def c_dotS : Ctr Tryz.prog := ⟨59, ent Tryz.func59 rfl rfl, [], sp_dotS, good_dotS, []⟩
@[go_sem] theorem c_dotS_f : c_dotS.f = 59 := rfl
@[go_sem] theorem c_dotS_ms : c_dotS.ms = [] := rfl
@[go_sem] theorem c_dotS_sp : c_dotS.spec = sp_dotS := rfl
@[go_sem] theorem c_dotS_fz : c_dotS.fz = [] := rfl
attribute [go_sem] sp_dotS
end Go.Proofs.YthfmlelodmcgkaaGreat.V
end
section
namespace Go.Proofs.YthfmlelodmcgkaaGreat.V
open Go
theorem atT_mem : ∀ (ts : TermL) (w : List Int), atT ts w = 0 ∨ ∃ x ∈ ts, atT ts w = x.2
  | [], _ => .inl rfl
  | x :: r, w => by
    rw [atT]
    split
    · exact .inr ⟨x, List.mem_cons_self, rfl⟩
    · rcases atT_mem r w with h | ⟨y, h1, h2⟩
      · exact .inl h
      · exact .inr ⟨y, List.mem_cons_of_mem _ h1, h2⟩
theorem cir_vals {p : Int} {ts : TermL} (h : okT p ts) : ∀ x ∈ cirR p ts, 0 ≤ x.2 ∧ x.2 < p := fun x hx => by
  obtain ⟨⟨h2, hp⟩, hl, hw⟩ := h
  have hs := jS_rep p (leaT ts) fun x hx => sm_of (leaT_w (fun x h => (hw x h).1) x hx)
  have := ((hs.mem x).1 hx).2.1
  rw [this, cF_val (by omega) (by omega) (leaT ts) _ (fun y hy => by
    obtain ⟨z, hz, rfl⟩ := List.mem_map.1 hy
    have := (hw z hz).2
    show -1000000 ≤ z.2 ∧ z.2 ≤ 1000000
    omega) (fun _ => ⟨Int.le_refl 0, by omega⟩)]
  exact ⟨Int.emod_nonneg _ (by omega), Int.emod_lt_of_pos _ (by omega)⟩
theorem row_vals {p : Int} {ts : TermL} (h : okT p ts) (ds : LL) : ∀ x ∈ rowD (cirR p ts) ds, 0 ≤ x ∧ x < p := fun x hx => by
  obtain ⟨d, hd, rfl⟩ := List.mem_map.1 hx
  rcases atT_mem (cirR p ts) d with e | ⟨y, h1, h2⟩
  · rw [e]
    have := h.1
    omega
  · rw [h2]; exact cir_vals h y h1
def vwR (n : Int) (l : List Int) (p : Int) (ts : TermL) : Int × Int :=
  if smS [(p, ts)] = 0 then (if okWt p n l then (sumL l (rowD (cirR p ts) (diaL n.toNat)) % p, 0) else (0, 2)) else (0, smS [(p, ts)])
def sp_vw : List Cv → List Obj' → Tree
  | [.one (.v (.int .i64 n)), .one (.ro (.int .i64) l), .agg [.v (.int .i64 p), .ro (.pr (.sl 2 (.int .i64)) (.int .i64)) ts]], [] => .ret (.tup [.one (.v (.int .i64 (vwR n l p ts).1)), .one (.v (.int .i64 (vwR n l p ts).2))]) []
  | _, _ => .fail
theorem okWt_dot {p n : Int} {l : List Int} {ts : TermL} (h : okWt p n l = true) (hs : smS [(p, ts)] = 0) : 1 ≤ p ∧ p ≤ 13 ∧ l.length ≤ (rowD (cirR p ts) (diaL n.toNat)).length ∧ l.length ≤ 10000000 ∧ modL l ∧ modL (rowD (cirR p ts) (diaL n.toNat)) := by
  unfold okWt at h
  simp only [Bool.and_eq_true, decide_eq_true_eq] at h
  obtain ⟨h1, h2, h3⟩ := h
  have hn := okOrd_n h1
  have hd := diaL_len (n := n.toNat) (by omega)
  refine ⟨by omega, hn.1.2, by rw [rowD_len]; omega, by omega, fun x hx => ?_, fun x hx => ?_⟩
  · have := inB_tt (List.all_eq_true.1 h3 x hx); omega
  · have := row_vals (okT_of (sm_isS hs)) _ x hx; omega
theorem okWt_n {p n : Int} {l : List Int} (h : okWt p n l = true) : 0 ≤ n ∧ n ≤ 4 := (okOrd_n (Bool.and_eq_true_iff.1 h).1).2
set_option maxHeartbeats 4000000 in
set_option maxRecDepth 100000 in
theorem good_vwI : Good Tryz.prog 24 sp_vw := by
  refine good_ofF Tryz.func24 rfl _ rfl _ rfl (tab [c_small, c_wOk, c_circle, c_dRow, c_dot]) (fun X cs os0 K hok hos hK => ?_)
  clear hos; unfold sp_vw at hK
  split at hK
  case h_2 => exact hK.elim
  rename_i n l p ts
  refine ⟨by simp, by simp, ?_⟩
  simp only [go_sem] at hK hok
  simp (maxSteps := 4000000) only [go_sem, Tryz.f24, ↓brB_t, ↓brB_f, Nat.reduceAdd, Int.reduceLE, Int.reduceLT, Int.reduceNeg, decide_true, decide_false, Bool.and_self, Nat.succ_eq_add_one, Int.toNat_natCast, Nat.beq_refl, Bool.and_true, Bool.true_and, Bool.false_or, Bool.or_true, List.all_cons, List.all_nil, Nat.reduceMul, Nat.add_zero, Nat.zero_add, List.length_nil, List.length_cons, dite_true, List.nil_append, Nat.reduceBEq, reduceDIte, reduceIte, reduceCtorEq, Bool.or_false, Bool.true_or, Bool.and_false, Bool.false_and, Bool.not_true, Bool.not_false, Option.isSome_some, Option.isSome_none, Option.getD_some, List.getElem?_cons_zero, List.getElem?_cons_succ, eq_self, and_self, List.take_succ_cons, List.take_zero, List.drop_succ_cons, List.drop_zero]
  clear hok
  refine ⟨⟨by decide, by decide⟩, brB_intro (fun h1 => ?_) (fun h1 => brB_intro (fun h2 => ?_) (fun h2 => ?_))⟩
  · have h1 := of_decide_eq_false (snb h1)
    rw [vwR, if_neg h1] at hK
    exact ret0 hK
  · have h1 := of_decide_eq_true (snb' h1)
    rw [vwR, if_pos h1, if_neg (by rw [snb h2]; decide)] at hK
    exact ret0 hK
  · have h1 := of_decide_eq_true (snb' h1)
    have h2 := snb' h2
    have hn := okWt_n h2
    have hd := okWt_dot h2 h1
    rw [vwR, if_pos h1, if_pos h2] at hK
    exact ⟨okT_of (sm_isS h1), ⟨by omega, by omega⟩, hd, by kernel_rfl, ret0 hK⟩
def c_vwI : Ctr Tryz.prog := ⟨24, ent Tryz.func24 rfl rfl, [], sp_vw, good_vwI, []⟩
@[go_sem] theorem c_vwI_f : c_vwI.f = 24 := rfl
@[go_sem] theorem c_vwI_ms : c_vwI.ms = [] := rfl
@[go_sem] theorem c_vwI_sp : c_vwI.spec = sp_vw := rfl
@[go_sem] theorem c_vwI_fz : c_vwI.fz = [] := rfl
attribute [go_sem] sp_vw
set_option maxHeartbeats 4000000 in
set_option maxRecDepth 100000 in
theorem good_vwS : Good Tryz.prog 22 sp_vw := by
  refine good_ofF Tryz.func22 rfl _ rfl _ rfl (tab [c_l04Sum, c_list, c_circleS, c_diasS, c_l04Row, c_dotS]) (fun X cs os0 K hok hos hK => ?_)
  clear hos; unfold sp_vw at hK
  split at hK
  case h_2 => exact hK.elim
  rename_i n l p ts
  refine ⟨by simp, by simp, ?_⟩
  simp only [go_sem] at hK hok
  simp (maxSteps := 4000000) only [go_sem, Tryz.f22, ↓brB_t, ↓brB_f, Nat.reduceAdd, Int.reduceLE, Int.reduceLT, Int.reduceNeg, decide_true, decide_false, Bool.and_self, Nat.succ_eq_add_one, Int.toNat_natCast, Nat.beq_refl, Bool.and_true, Bool.true_and, Bool.false_or, Bool.or_true, List.all_cons, List.all_nil, Nat.reduceMul, Nat.add_zero, Nat.zero_add, List.length_nil, List.length_cons, dite_true, List.nil_append, Nat.reduceBEq, reduceDIte, reduceIte, reduceCtorEq, Bool.or_false, Bool.true_or, Bool.and_false, Bool.false_and, Bool.not_true, Bool.not_false, Option.isSome_some, Option.isSome_none, Option.getD_some, List.getElem?_cons_zero, List.getElem?_cons_succ, eq_self, and_self, List.take_succ_cons, List.take_zero, List.drop_succ_cons, List.drop_zero]
  clear hok
  refine ⟨⟨by decide, by decide⟩, brB_intro (fun h1 => brB_intro (fun h2 => ?_) (fun h2 => ?_)) (fun h1 => brB_intro (fun h2 => ?_) (fun h2 => ?_))⟩
  · have h1 := of_decide_eq_true h1
    have e : okWt p n l = false := by
      cases h : okWt p n l with
      | false => rfl
      | true => rw [h, if_pos rfl] at h2; cases h2
    rw [vwR, if_pos h1, if_neg (by rw [e]; decide)] at hK
    rw [e]
    exact ret0 hK
  · have h1 := of_decide_eq_true h1
    have e : okWt p n l = true := by
      cases h : okWt p n l with
      | true => rfl
      | false => rw [h, if_neg (by decide)] at h2; cases h2
    have hn := okWt_n e
    have hd := okWt_dot e h1
    have hdl := diaL_len (n := n.toNat) (by omega)
    rw [vwR, if_pos h1, if_pos e] at hK
    exact ⟨okT_of (sm_isS h1), ⟨by omega, by omega⟩, by omega, hd, by kernel_rfl, ret0 hK⟩
  · have h1 := of_decide_eq_false h1
    rw [vwR, if_neg h1] at hK
    exact ret0 hK
  · exact absurd (of_decide_eq_true (snb' h2)) (of_decide_eq_false h1)
def c_vwS : Ctr Tryz.prog := ⟨22, ent Tryz.func22 rfl rfl, [], sp_vw, good_vwS, []⟩
@[go_sem] theorem c_vwS_f : c_vwS.f = 22 := rfl
@[go_sem] theorem c_vwS_ms : c_vwS.ms = [] := rfl
@[go_sem] theorem c_vwS_sp : c_vwS.spec = sp_vw := rfl
@[go_sem] theorem c_vwS_fz : c_vwS.fz = [] := rfl
attribute [go_sem] sp_vw
def sp_lawILS : List Cv → List Obj' → Tree
  | [.one (.v (.int .i64 n)), .one (.ro (.int .i64) l), .agg [.v (.int .i64 p), .ro (.pr (.sl 2 (.int .i64)) (.int .i64)) ts]], [] => .ret (vb true) []
  | _, _ => .fail
set_option maxHeartbeats 4000000 in
set_option maxRecDepth 100000 in
theorem good_lawValueOfWeight : Good Tryz.prog 4 sp_lawILS := by
  refine good_ofF Tryz.func4 rfl _ rfl _ rfl (tab [c_szSum, c_to, c_toSum, c_vwS, c_vwI, c_eqS, c_eqSum]) (fun X cs os0 K hok hos hK => ?_)
  clear hos; unfold sp_lawILS at hK
  split at hK
  case h_2 => exact hK.elim
  rename_i n l p ts
  refine ⟨by simp, by simp, ?_⟩
  simp only [go_sem] at hK hok
  simp (maxSteps := 4000000) only [go_sem, Tryz.f4, ↓brB_t, ↓brB_f, Nat.reduceAdd, Int.reduceLE, Int.reduceLT, Int.reduceNeg, decide_true, decide_false, Bool.and_self, Nat.succ_eq_add_one, Int.toNat_natCast, Nat.beq_refl, Bool.and_true, Bool.true_and, Bool.false_or, Bool.or_true, List.all_cons, List.all_nil, Nat.reduceMul, Nat.add_zero, Nat.zero_add, List.length_nil, List.length_cons, dite_true, List.nil_append, Nat.reduceBEq, reduceDIte, reduceIte, reduceCtorEq, Bool.or_false, Bool.true_or, Bool.and_false, Bool.false_and, Bool.not_true, Bool.not_false, Option.isSome_some, Option.isSome_none, Option.getD_some, List.getElem?_cons_zero, List.getElem?_cons_succ, eq_self, and_self, List.take_succ_cons, List.take_zero, List.drop_succ_cons, List.drop_zero]
  generalize vwR n l p ts = r at *
  clear hok
  refine brB_intro (fun _ => ret0 hK) (fun h1 => ⟨trivial, brB_intro (fun _ => ret0 hK) (fun h2 => ?_)⟩)
  have h1 := of_decide_eq_false h1
  have hz : ts.length + szT ts ≤ 1048576 := by
    have h2 := of_decide_eq_false h2
    split at h2 <;> omega
  have a0 : l.length ≤ 1099511627776 := by omega
  have a1 : ts.length ≤ 1099511627776 ∧ ∀ x ∈ (ts : TermL), x.1.length ≤ 1099511627776 := ⟨by omega, fun x hx => by have := szT_mem hx; omega⟩
  clear h1 h2
  exact ⟨a0, a1, by kernel_rfl, a0, a1, a0, a1, by kernel_rfl, ret0 hK⟩
end Go.Proofs.YthfmlelodmcgkaaGreat.V
end
section
namespace Go.Proofs.YthfmlelodmcgkaaGreat.V
open Go Go.ChangeShapes
def Opens (P : Program) (w : World) (t : TypeId) (k : Kn) : Prop :=
  ∀ (H : Type) (enc : TypeId × Value → H) (base : Nat) (spare : Nat → Bool) (held : Bool) (fuel : Nat) (cs : List Value) (x : DataW H × List MemPlace), DataW.trod enc P w base spare held fuel t cs = some x → ∃ y : k.T, Rep (fun b => b < w.heap.size) w k y cs
theorem opens_int {P : Program} {w : World} {t : TypeId} (ht : P.underlying t = some (.int .i64)) : Opens P w t (.int .i64) := by
  intro H enc base spare held fuel cs x h
  obtain ⟨n, rfl, _, hw⟩ := DataW.trod_int ht h
  refine ⟨n, rfl, ?_⟩
  simp only [Lit.wf, min64, max64, Bool.and_eq_true, decide_eq_true_eq] at hw
  exact hw
theorem opens_sl {P : Program} {w : World} {t e : TypeId} {te : Nat} {k : Kn} (ht : P.underlying t = some (.slice e)) (hc : P.cellsOf e = k.cells) (ho : Opens P w e k) : Opens P w t (.sl te k) := by
  intro H enc base spare held fuel cs x h
  rcases DataW.trod_slice ht h with ⟨rfl, _⟩ | ⟨a, len, cap, elems, rest, n, _, rfl, _, _, hl, hm, hlen, hel, _, _⟩
  · exact ⟨[], .slice none 0 0, rfl, none, 0, rfl, Nat.le_refl _, Nat.zero_le _, fun j hj => absurd hj (by simp)⟩
  · have each : ∀ i : Fin len, ∃ z : k.T, ∃ c : List Value, Rep (fun b => b < w.heap.size) w k z c ∧ ∀ j, j < k.cells → w.cell? ((a.add (i * k.cells)).add j) = c[j]? := by
      intro i
      have h1 := hel i i.2
      rw [List.getElem?_eq_getElem (by rw [hlen]; exact i.2), Option.bind_eq_some_iff] at h1
      obtain ⟨c, h2, h3⟩ := h1
      obtain ⟨z, hz⟩ := ho H enc base spare held n c _ h3
      rw [hc] at h2
      exact ⟨z, c, hz, (World.cells?_some h2).2.2⟩
    refine ⟨List.ofFn fun i : Fin len => Classical.choose (each i), .slice (some a) len cap, rfl, some a, cap, by rw [List.length_ofFn], by rw [List.length_ofFn]; exact hl, by rw [List.length_ofFn]; omega, fun j hj => ?_⟩
    have hj' : j < len := by rwa [List.length_ofFn] at hj
    obtain ⟨c, h1, h2⟩ := Classical.choose_spec (each ⟨j, hj'⟩)
    have hcl : c.length = k.cells := h1.length
    have hpos := k.cells_pos
    have hspot : a.spot = none := by
      obtain ⟨c0, h3, h4⟩ := Classical.choose_spec (each ⟨0, by omega⟩)
      have h5 := h4 0 hpos
      have hc0 : c0.length = k.cells := h3.length
      rw [Nat.zero_mul, show (a.add 0).add 0 = a from rfl, List.getElem?_eq_getElem (by omega)] at h5
      unfold World.cell? at h5
      split at h5
      · split at h5
        · cases h5
        · rename_i hs
          cases he : a.spot with
          | none => rfl
          | some y => exact absurd (by rw [he]; rfl) hs
      · cases h5
    obtain ⟨b, o, s⟩ := a
    obtain rfl : s = none := hspot
    have h6 : ∀ i (hi : i < c.length), w.cell? ⟨b, o + (j * k.cells + i), none⟩ = some c[i] := fun i hi => by
      have := h2 i (by omega)
      rw [Addr.add_lit, Addr.add_lit, List.getElem?_eq_getElem hi, Nat.add_assoc] at this
      exact this
    refine ⟨b, o, c, rfl, World.block_lt_of_cell? w _ (h6 0 (by omega)), ?_, hcl, h6⟩
    rw [List.getElem_ofFn]; exact h1
theorem opens_pr {P : Program} {w : World} {t : TypeId} {f0 f1 : Field} {a b : Kn} (ht : P.underlying t = some (.struct #[f0, f1])) (hc : P.cellsOf t = a.cells + b.cells) (ha : P.cellsOf f0.type = a.cells) (hb : P.cellsOf f1.type = b.cells) (o0 : f0.offset = 0) (o1 : f1.offset = a.cells)
    (h0 : Opens P w f0.type a) (h1 : Opens P w f1.type b) : Opens P w t (.pr a b) := by
  intro H enc base spare held fuel cs x h
  obtain ⟨y0, y1, n, _, hl, k0, k1⟩ := trod_struct2 ht h
  rw [ha, o0, List.drop_zero] at k0
  rw [hb, o1] at k1
  obtain ⟨z0, r0⟩ := h0 H enc base spare held n _ _ k0
  obtain ⟨z1, r1⟩ := h1 H enc base spare held n _ _ k1
  refine ⟨(z0, z1), cs.take a.cells, (cs.drop a.cells).take b.cells, ?_, r0, r1⟩
  rw [List.take_of_length_le (l := cs.drop a.cells) (by rw [List.length_drop]; omega), List.take_append_drop]
theorem opens_cv {P : Program} {w : World} {t : TypeId} {fs : Array Field} {a b : Kn} (ht : P.underlying t = some (.struct fs)) (ho : Opens P w t (.pr a b)) {H : Type} {enc : TypeId × Value → H} {base b0 : Nat} {spare : Nat → Bool} {held : Bool} {r : Reach} {v : Value} {d : DataW H} {p : List MemPlace}
    (hv : Value.okWide P w r b0 t v) (h : DataW.Trod enc P w base spare held t v d p) : ∃ y : (Kn.pr a b).T, CV P (EW w) (cvK (.pr a b) y) v := by
  obtain ⟨cs, rfl, _⟩ := WideShapes.okWide_struct ht hv
  obtain ⟨fuel, hf⟩ := h
  obtain ⟨y, hy⟩ := ho H enc base spare held fuel _ _ hf
  exact ⟨y, cvK_ok ⟨hy, cs, rfl⟩⟩
end Go.Proofs.YthfmlelodmcgkaaGreat.V
end
